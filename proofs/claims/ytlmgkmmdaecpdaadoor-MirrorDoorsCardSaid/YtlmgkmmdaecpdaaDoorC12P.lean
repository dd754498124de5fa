/- Further parts of the same walk: contracts of the functions that the law reaches, each under the conditions that it states. -/
import Derived.Test.YtlmgkmmdaecpdaaDoorC12O
namespace Go.Proofs.YtlmgkmmdaecpdaaDoor.Im
open Go.RowKit Go.Proofs.YtlmgkmmdaecpdaaDoorW.PrintWords Go.Proofs.YtlmgkmmdaecpdaaDoorW.PrintLast Go.Proofs.YtlmgkmmdaecpdaaDoorW.PrintMore Go.Proofs.YtlmgkmmdaecpdaaDoor.Mi
set_option linter.unusedVariables false
set_option linter.unusedSimpArgs false
def dN (n : Nat) (l : List UInt8) (e : Tri3) : Nat := if doorC (cC n l) e then 1 else 0
theorem dN_le (n : Nat) (l : List UInt8) (e : Tri3) : dN n l e ≤ 1 := by unfold dN; split <;> omega
def adC (n : Nat) (l : List UInt8) (x : S77) : Nat := if x.f0 = 0 then dN n l (0, x.f1.toNat, x.f2.toNat) + dN n l (2, x.f1.toNat, x.f2.toNat) + dN n l (1, x.f1.toNat, x.f2.toNat) else 0
def bdC (n : Nat) (l : List UInt8) (x : S77) : Nat := if x.f0 = 0 ∧ x.f2 = 0 then dN n l (0, x.f1.toNat, x.f2.toNat) else 0
def alT (n : Nat) (l : List UInt8) (q : Nat) : Nat := (((cellsL n).take q).map (adC n l)).sum
def bdT (n : Nat) (l : List UInt8) (q : Nat) : Nat := (((cellsL n).take q).map (bdC n l)).sum
def alL (n : Nat) (l : List UInt8) : Nat := ((cellsL n).map (adC n l)).sum
def bdL (n : Nat) (l : List UInt8) : Nat := ((cellsL n).map (bdC n l)).sum
theorem alT_all (n : Nat) (l : List UInt8) : alT n l (cellsL n).length = alL n l := by unfold alT alL; rw [List.take_length]
theorem bdT_all (n : Nat) (l : List UInt8) : bdT n l (cellsL n).length = bdL n l := by unfold bdT bdL; rw [List.take_length]
theorem alT_succ (n : Nat) (l : List UInt8) {q : Nat} (h : q < (cellsL n).length) : alT n l (q + 1) = alT n l q + adC n l (cellsL n)[q] := by
  unfold alT
  rw [List.take_succ_eq_append_getElem h, List.map_append, List.sum_append]
  rfl
theorem bdT_succ (n : Nat) (l : List UInt8) {q : Nat} (h : q < (cellsL n).length) : bdT n l (q + 1) = bdT n l q + bdC n l (cellsL n)[q] := by
  unfold bdT
  rw [List.take_succ_eq_append_getElem h, List.map_append, List.sum_append]
  rfl
theorem adC_le (n : Nat) (l : List UInt8) (x : S77) : adC n l x ≤ 3 := by
  unfold adC
  have h0 := dN_le n l (0, x.f1.toNat, x.f2.toNat)
  have h1 := dN_le n l (1, x.f1.toNat, x.f2.toNat)
  have h2 := dN_le n l (2, x.f1.toNat, x.f2.toNat)
  split <;> omega
theorem bdC_le (n : Nat) (l : List UInt8) (x : S77) : bdC n l x ≤ 1 := by
  unfold bdC
  have h0 := dN_le n l (0, x.f1.toNat, x.f2.toNat)
  split <;> omega
theorem sum_le {f : S77 → Nat} {b : Nat} (h : ∀ x, f x ≤ b) : ∀ xs : List S77, (xs.map f).sum ≤ b * xs.length
  | [] => by simp
  | x :: xs => by
    have h1 := sum_le h xs
    have h2 := h x
    rw [List.map_cons, List.sum_cons, List.length_cons, Nat.mul_succ]
    omega
theorem alT_le (n : Nat) (l : List UInt8) (q : Nat) : alT n l q ≤ 3 * (cellsL n).length := Nat.le_trans (sum_le (adC_le n l) _) (Nat.mul_le_mul_left _ (by rw [List.length_take]; omega))
theorem bdT_le (n : Nat) (l : List UInt8) (q : Nat) : bdT n l q ≤ (cellsL n).length := by
  have := sum_le (bdC_le n l) ((cellsL n).take q)
  rw [Nat.one_mul] at this
  exact Nat.le_trans this (by rw [List.length_take]; omega)
def DoorsPost (n : Int) (s : ByteArray) (w : World) (e : Ending) (w' : World) : Prop :=
  Below w.heap.size w w' ∧ e = if triE n s = 0 then .returned (.tuple #[.int .i64 (bdL n.toNat s.data.toList : Nat), .int .i64 (alL n.toNat s.data.toList : Nat), .int .i64 0])
    else .returned (.tuple #[.int .i64 0, .int .i64 0, .int .i64 (triE n s)])
def paK (a b c : Nat) (k : Nat) : Nat := if k = 0 then 0 else if k = 1 then a else if k = 2 then a + b else a + b + c
def pbK (a : Nat) (k : Nat) : Nat := if k = 0 then 0 else a
theorem pbK_0 (a : Nat) : pbK a 0 = 0 := rfl
theorem pbK_1 (a : Nat) : pbK a 1 = a := rfl
theorem pbK_2 (a : Nat) : pbK a 2 = a := rfl
theorem pbK_3 (a : Nat) : pbK a 3 = a := rfl
theorem paK_0 (a b c : Nat) : paK a b c 0 = 0 := rfl
theorem paK_1 (a b c : Nat) : paK a b c 1 = a := rfl
theorem paK_2 (a b c : Nat) : paK a b c 2 = a + b := rfl
theorem paK_3 (a b c : Nat) : paK a b c 3 = a + b + c := rfl
set_option maxHeartbeats 12800000 in
set_option maxRecDepth 100000 in
theorem rdoors_good (n : Int) (s : ByteArray) (w : World) (hs : s.size ≤ 1000000) (hE : triE n s = 0) :
    Calls Tryd.prog 37 #[.int .i64 n, .string s] w (DoorsPost n s w) := by
  have hcol := col_of hE
  have HTr := Aside0.mk (hE ▸ triangle_any n s w hs)
  have HE := Aside0.mk hE
  have hn1 := hcol.n1
  have hsz := col_size hE
  obtain ⟨N, rfl⟩ : ∃ N : Nat, n = N := ⟨n.toNat, by omega⟩
  rw [Int.toNat_natCast] at hcol hn1 hsz
  have HCol := Aside0.mk hcol
  have HDo := Aside0.mk (fun (a b p q : Nat) (h1 : a + b ≤ N) (h2 : p + q ≤ N) (w1 : World) => rdoor_any hcol hsz h1 h2 w1)
  have HCe := Aside0.mk (fun w1 => rcells_any N hn1 hcol.n20 w1)
  obtain ⟨l, hl⟩ : ∃ l, s.data.toList = l := ⟨_, rfl⟩
  rw [hl] at HDo HCol
  have HLs := Aside0.mk hl
  clear hl hE hcol hsz
  go_enter Tryd.func37, Tryd.ntmps37
  go_wp2_with fail
  refine HTr.out.mono ?_
  rintro e w1 ⟨rfl, hb1⟩
  have HB := Aside0.mk hb1
  clear hb1
  go_wp2_with fail
  refine (HCe.out w1).mono ?_
  rintro e w2 ⟨v, rfl, hR, hb2⟩
  obtain ⟨A, c, rfl, hl, hC⟩ := Kd.R_reads hR
  have HC := Aside0.mk hC
  have HB2 := Aside0.mk (below_then HB.out HB.out.size hb2)
  have hlen : (cellsL N).length ≤ 800 := by have := celK_len (n := N) HCol.out.n20 2; unfold cellsL; omega
  clear hC hb2 hR HB
  obtain ⟨Q, hQ⟩ : ∃ Q, (cellsL N).length = Q := ⟨_, rfl⟩
  rw [hQ] at HC hl hlen ⊢
  have HQ := Aside0.mk hQ
  clear hQ
  go_wp2_with fail
  go_loopw [8, 9, 11] (fun v8 v9 v11 wr => ∃ q : Nat, q ≤ Q ∧ v11 = .int .i64 (q : Int) ∧ v8 = .int .i64 (bdT N l q : Nat) ∧ v9 = .int .i64 (alT N l q : Nat) ∧ Aside0 (Below w2.heap.size w2 wr)) (fun _ _ v _ => Q - (intOf v).toNat)
  case atStart => exact ⟨0, Nat.zero_le _, rfl, rfl, rfl, ⟨Below.refl _ _⟩⟩
  case round =>
    obtain ⟨q, hq, rfl, rfl, rfl, HBr⟩ := hrel
    by_cases hqQ : q < Q
    · have q0 : (0 : Int) ≤ (q : Int) := Int.natCast_nonneg q
      have q1 : (q : Int) < (Q : Int) := Int.ofNat_lt.2 hqQ
      have dq : decide ((q : Int) < (Q : Int)) = true := decide_eq_true q1
      obtain ⟨ad, rfl, g0, g1, g2⟩ := at_T77 HC.out (q : Int) q0 q1
      rw [Int.toNat_natCast] at g0 g1 g2
      have hlt : q < (cellsL N).length := by rw [HQ.out]; exact hqQ
      have hrd : rd_T77 (cellsL N) (q : Int) = (cellsL N)[q] := by
        unfold rd_T77
        rw [Int.toNat_natCast, List.getD_eq_getElem?_getD, List.getElem?_eq_getElem hlt]; rfl
      obtain ⟨k, i, j, hk, hij, hx⟩ := mem_cells.1 (List.getElem_mem hlt)
      rw [hrd, hx] at g0 g1 g2
      change w2.cell? (ad.add (q * 3)) = some (.int .i64 (k : Int)) at g0
      change w2.cell? ⟨(ad.add (q * 3)).block, (ad.add (q * 3)).off + 1, none⟩ = some (.int .i64 (i : Int)) at g1
      change w2.cell? ⟨(ad.add (q * 3)).block, (ad.add (q * 3)).off + 2, none⟩ = some (.int .i64 (j : Int)) at g2
      have c0 := cell_below HBr.out g0
      have c1 := cell_below HBr.out g1
      have c2 := cell_below HBr.out g2
      have hsa := alT_succ N l hlt
      have hsb := bdT_succ N l hlt
      rw [hx] at hsa hsb
      have la := alT_le N l q
      have lb := bdT_le N l q
      rw [HQ.out] at la lb
      generalize alT N l q = an at *
      generalize bdT N l q = bn at *
      rcases (show k = 0 ∨ k = 1 by omega) with rfl | rfl
      · have hca : adC N l (cel 0 i j) = dN N l (0, i, j) + dN N l (2, i, j) + dN N l (1, i, j) := rfl
        have hcb : bdC N l (cel 0 i j) = if j = 0 then dN N l (0, i, j) else 0 := by
          unfold bdC
          by_cases hj : j = 0
          · rw [if_pos hj, if_pos ⟨rfl, by show (j : Int) = 0; omega⟩]; rfl
          · rw [if_neg hj, if_neg (fun h => hj (by have : (j : Int) = 0 := h.2; omega))]
        rw [hca] at hsa
        rw [hcb] at hsb
        have hd0 := HDo.out i j (i + 1) j (by omega) (by omega)
        have hd1 := HDo.out (i + 1) j i (j + 1) (by omega) (by omega)
        have hd2 := HDo.out i (j + 1) i j (by omega) (by omega)
        have e0 : isD (cC N l i j) (cC N l (i + 1) j) = doorC (cC N l) (0, i, j) := rfl
        have e1 : isD (cC N l (i + 1) j) (cC N l i (j + 1)) = doorC (cC N l) (2, i, j) := isD_symm _ _
        have e2 : isD (cC N l i (j + 1)) (cC N l i j) = doorC (cC N l) (1, i, j) := isD_symm _ _
        rw [e0] at hd0
        rw [e1] at hd1
        rw [e2] at hd2
        unfold dN at hsa hsb
        generalize doorC (cC N l) (0, i, j) = x0 at *
        generalize doorC (cC N l) (2, i, j) = x1 at *
        generalize doorC (cC N l) (1, i, j) = x2 at *
        push_cast at hd0 hd1 hd2
        have HD0 := Aside0.mk hd0
        have HD1 := Aside0.mk hd1
        have HD2 := Aside0.mk hd2
        obtain ⟨dA, hdA⟩ : ∃ d : Nat, (if x0 = true then 1 else 0) = d := ⟨_, rfl⟩
        obtain ⟨dC, hdC⟩ : ∃ d : Nat, (if x1 = true then 1 else 0) = d := ⟨_, rfl⟩
        obtain ⟨dB, hdB⟩ : ∃ d : Nat, (if x2 = true then 1 else 0) = d := ⟨_, rfl⟩
        obtain ⟨bA, hbA⟩ : ∃ d : Nat, (if j = 0 then dA else 0) = d := ⟨_, rfl⟩
        rw [hdA, hdC, hdB] at hsa
        rw [hdA, hbA] at hsb
        have HSA := Aside0.mk hsa
        have HSB := Aside0.mk hsb
        have HA := Aside0.mk hdA
        have HCc := Aside0.mk hdC
        have HBb := Aside0.mk hdB
        have HbA := Aside0.mk hbA
        have sA : dA ≤ 1 := by rw [← hdA]; split <;> omega
        have sC : dC ≤ 1 := by rw [← hdC]; split <;> omega
        have sB : dB ≤ 1 := by rw [← hdB]; split <;> omega
        have sbA : bA ≤ 1 := by rw [← hbA]; split <;> omega
        have HCo := Aside0.mk (fun w1 => corners_0 i j w1 (by have := HCol.out.n20; omega) (by have := HCol.out.n20; omega))
        have hi20 : i ≤ 20 := by have := HCol.out.n20; omega
        have hj20 : j ≤ 20 := by have := HCol.out.n20; omega
        clear hsa hsb hdA hdC hdB hbA hca hcb hd0 hd1 hd2 e0 e1 e2 hrd hx hlt g0 g1 g2 hij HDo
        go_wp2_with fail
        refine (HCo.out wr).mono ?_
        rintro e w3 ⟨rfl, hb3⟩
        have HB3 := Aside0.mk (below_then HBr.out HBr.out.size hb3)
        clear hb3 c0 c1 c2
        go_wp2_with fail
        obtain ⟨gq, hgq⟩ : ∃ gq, w3.heap.size = gq := ⟨_, rfl⟩
        have HQ3 := Aside0.mk (Blk.new w3 101 #[.int .i64 (i : Nat), .int .i64 (j : Nat), .int .i64 ((i : Int) + 1), .int .i64 (j : Nat), .int .i64 (i : Nat), .int .i64 ((j : Int) + 1)])
        have HB4 := Aside0.mk (below_alloc HB3.out (.cells #[.int .i64 (i : Nat), .int .i64 (j : Nat), .int .i64 ((i : Int) + 1), .int .i64 (j : Nat), .int .i64 (i : Nat), .int .i64 ((j : Int) + 1)] 101))
        rw [hgq] at HQ3 ⊢
        clear HB3
        generalize w3.alloc (.cells #[.int .i64 (i : Nat), .int .i64 (j : Nat), .int .i64 ((i : Int) + 1), .int .i64 (j : Nat), .int .i64 (i : Nat), .int .i64 ((j : Int) + 1)] 101) = W at *
        go_loopw [8, 9, 13] (fun v8 v9 v13 wr => ∃ k : Nat, k ≤ 3 ∧ v13 = .int .i64 (k : Int) ∧ v8 = .int .i64 (bn + pbK bA k : Nat) ∧ v9 = .int .i64 (an + paK dA dC dB k : Nat) ∧ Aside0 (Below W.heap.size W wr)) (fun _ _ v _ => 3 - (intOf v).toNat)
        case atStart => exact ⟨0, Nat.zero_le _, rfl, rfl, rfl, ⟨Below.refl _ _⟩⟩
        case round =>
          obtain ⟨k, hk3, rfl, rfl, rfl, HBw⟩ := hrel
          have hq := HQ3.out.later HBw.out
          have o0 : wr.cell? ⟨gq, 0, none⟩ = some (.int .i64 (i : Nat)) := hq.cell 0
          have o1 : wr.cell? ⟨gq, 1, none⟩ = some (.int .i64 (j : Nat)) := hq.cell 1
          have o2 : wr.cell? ⟨gq, 2, none⟩ = some (.int .i64 ((i : Int) + 1)) := hq.cell 2
          have o3 : wr.cell? ⟨gq, 3, none⟩ = some (.int .i64 (j : Nat)) := hq.cell 3
          have o4 : wr.cell? ⟨gq, 4, none⟩ = some (.int .i64 (i : Nat)) := hq.cell 4
          have o5 : wr.cell? ⟨gq, 5, none⟩ = some (.int .i64 ((j : Int) + 1)) := hq.cell 5
          have HQr := Aside0.mk hq
          clear hq
          rcases (show k = 0 ∨ k = 1 ∨ k = 2 ∨ k = 3 by omega) with rfl | rfl | rfl | rfl
          · go_wp2_with fail
            have n1 : IntKind.i64.wrap 1 = 1 := by decide
            have n2 : Int.tmod 1 3 = 1 := by decide
            refine wp_region_held_drew (S := fun w' => w'.cell? ⟨gq, 0, none⟩ = some (.int .i64 (i : Nat)) ∧ w'.cell? ⟨gq, 1, none⟩ = some (.int .i64 (j : Nat)) ∧ w'.cell? ⟨gq, 2, none⟩ = some (.int .i64 ((i : Int) + 1)) ∧ w'.cell? ⟨gq, 3, none⟩ = some (.int .i64 (j : Nat)) ∧ w'.cell? ⟨gq, 4, none⟩ = some (.int .i64 (i : Nat)) ∧ w'.cell? ⟨gq, 5, none⟩ = some (.int .i64 ((j : Int) + 1))) (by kernel_rfl) ?_ (fun hHeld => ?_)
            · exact ⟨o0, o1, o2, o3, o4, o5⟩
            refine wpAnyH_takeL (i := 0) (v := ?_) rfl (by kernel_rfl) (by kernel_rfl) (by kernel_rfl) (fun _ _ _ h => h) (Or.inl ⟨by rfl, ?_⟩) hHeld ?_
            rotate_left
            · intro w hSw
              (try dsimp only at hSw)
              go_simp
              all_goals with_reducible rfl
            try simp only [Act.put, List.setIfInBounds_toArray, List.set_cons_zero, List.set_cons_succ]
            refine wpAnyH_takeL (i := 1) (v := ?_) rfl (by kernel_rfl) (by kernel_rfl) (by kernel_rfl) (fun _ _ _ h => h) (Or.inl ⟨by rfl, ?_⟩) hHeld ?_
            rotate_left
            · intro w hSw
              (try dsimp only at hSw)
              go_simp
              all_goals with_reducible rfl
            try simp only [Act.put, List.setIfInBounds_toArray, List.set_cons_zero, List.set_cons_succ]
            refine wpAnyH_takeL (i := 2) (v := ?_) rfl (by kernel_rfl) (by kernel_rfl) (by kernel_rfl) (fun _ _ _ h => h) (Or.inl ⟨by rfl, ?_⟩) hHeld ?_
            rotate_left
            · intro w hSw
              (try dsimp only at hSw)
              go_simp
              all_goals with_reducible rfl
            try simp only [Act.put, List.setIfInBounds_toArray, List.set_cons_zero, List.set_cons_succ]
            refine wpAnyH_takeL (i := 3) (v := ?_) rfl (by kernel_rfl) (by kernel_rfl) (by kernel_rfl) (fun _ _ _ h => h) (Or.inl ⟨by rfl, ?_⟩) hHeld ?_
            rotate_left
            · intro w hSw
              (try dsimp only at hSw)
              go_simp
              all_goals with_reducible rfl
            try simp only [Act.put, List.setIfInBounds_toArray, List.set_cons_zero, List.set_cons_succ]
            refine wpAnyH_takeL (i := 4) (v := ?_) rfl (by kernel_rfl) (by kernel_rfl) (by kernel_rfl) (fun _ _ _ h => h) (Or.inl ⟨by rfl, ?_⟩) hHeld ?_
            rotate_left
            · intro w hSw
              (try dsimp only at hSw)
              go_simp
              all_goals with_reducible rfl
            try simp only [Act.put, List.setIfInBounds_toArray, List.set_cons_zero, List.set_cons_succ]
            refine wpAnyH_takeL (i := 5) (v := ?_) rfl (by kernel_rfl) (by kernel_rfl) (by kernel_rfl) (fun _ _ _ h => h) (Or.inl ⟨by rfl, ?_⟩) hHeld ?_
            rotate_left
            · intro w hSw
              (try dsimp only at hSw)
              go_simp
              all_goals with_reducible rfl
            try simp only [Act.put, List.setIfInBounds_toArray, List.set_cons_zero, List.set_cons_succ]
            refine wpAnyH_takeL (i := 6) (v := ?_) rfl (by kernel_rfl) (by kernel_rfl) (by kernel_rfl) (fun _ _ _ h => h) (Or.inl ⟨by rfl, ?_⟩) hHeld ?_
            rotate_left
            · intro w hSw
              (try dsimp only at hSw)
              go_simp
              all_goals with_reducible rfl
            try simp only [Act.put, List.setIfInBounds_toArray, List.set_cons_zero, List.set_cons_succ]
            refine wpAnyH_takeL (i := 7) (v := ?_) rfl (by kernel_rfl) (by kernel_rfl) (by kernel_rfl) (fun _ _ _ h => h) (Or.inl ⟨by rfl, ?_⟩) hHeld ?_
            rotate_left
            · intro w hSw
              (try dsimp only at hSw)
              go_simp
              all_goals with_reducible rfl
            try simp only [Act.put, List.setIfInBounds_toArray, List.set_cons_zero, List.set_cons_succ]
            refine wpAnyH_takeL (i := 8) (v := ?_) rfl (by kernel_rfl) (by kernel_rfl) (by kernel_rfl) (fun _ _ _ h => h) (Or.inl ⟨by rfl, ?_⟩) hHeld ?_
            rotate_left
            · intro w hSw
              (try dsimp only at hSw)
              go_simp
              all_goals with_reducible rfl
            try simp only [Act.put, List.setIfInBounds_toArray, List.set_cons_zero, List.set_cons_succ]
            refine wpAnyH_takeL (i := 9) (v := ?_) rfl (by kernel_rfl) (by kernel_rfl) (by kernel_rfl) (fun _ _ _ h => h) (Or.inl ⟨by rfl, ?_⟩) hHeld ?_
            rotate_left
            · intro w hSw
              (try dsimp only at hSw)
              go_simp
              all_goals with_reducible rfl
            try simp only [Act.put, List.setIfInBounds_toArray, List.set_cons_zero, List.set_cons_succ]
            refine wpAnyH_ready (rs := [10]) (by kernel_rfl) (by simp) (AllReadyH.consL rfl (fun K hK => ?_) AllReadyH.nil)
            go_simp
            refine (HD0.out _).mono ?_
            rintro e w5 ⟨rfl, hb6⟩
            have hb5 : Below wr.heap.size wr w5 := below_then (below_drew (Below.refl wr.heap.size wr)) (Nat.le_refl _) hb6
            clear hb6
            refine hK.out _ _ ?_ (fun hHeld => ?_)
            · exact ⟨cell_below hb5 o0, cell_below hb5 o1, cell_below hb5 o2, cell_below hb5 o3, cell_below hb5 o4, cell_below hb5 o5⟩
            clear hK K
            try simp only [Act.put, List.setIfInBounds_toArray, List.set_cons_zero, List.set_cons_succ]
            refine wpAnyH_done (by kernel_rfl) ?_ _
            have HB5 := Aside0.mk (below_then HBw.out HBw.out.size hb5)
            have p0 := cell_below hb5 o0
            have p1 := cell_below hb5 o1
            have p2 := cell_below hb5 o2
            have p3 := cell_below hb5 o3
            have p4 := cell_below hb5 o4
            have p5 := cell_below hb5 o5
            clear hb5 hHeld o0 o1 o2 o3 o4 o5
            cases x0 with
            | false =>
              have hd : dA = 0 := by rw [← HA.out]; rfl
              have hba : bA = 0 := by rw [← HbA.out, hd]; split <;> rfl
              go_wp2_with fail
              go_roundw
              case rel => exact ⟨1, by omega, rfl, by simp only [pbK_0, pbK_1, pbK_2, pbK_3, paK_0, paK_1, paK_2, paK_3, hd, hba] <;> first | rfl | (rw [wr_small (by omega) (by omega)]; refine congrArg (Value.int .i64) ?_; omega), by simp only [pbK_0, pbK_1, pbK_2, pbK_3, paK_0, paK_1, paK_2, paK_3, hd, hba] <;> first | rfl | (rw [wr_small (by omega) (by omega)]; refine congrArg (Value.int .i64) ?_; omega), HB5⟩
              case measure => simp [intOf]
            | true =>
              have hd : dA = 1 := by rw [← HA.out]; rfl
              by_cases hj0 : j = 0
              · have hba : bA = 1 := by rw [← HbA.out, if_pos hj0]; exact hd
                have z1 : ((j : Int) == 0) = true := beq_iff_eq.2 (by omega)
                clear hj0
                go_wp2_with fail
                go_roundw
                case rel => exact ⟨1, by omega, rfl, by simp only [pbK_0, pbK_1, pbK_2, pbK_3, paK_0, paK_1, paK_2, paK_3, hd, hba] <;> first | rfl | (rw [wr_small (by omega) (by omega)]; refine congrArg (Value.int .i64) ?_; omega), by simp only [pbK_0, pbK_1, pbK_2, pbK_3, paK_0, paK_1, paK_2, paK_3, hd, hba] <;> first | rfl | (rw [wr_small (by omega) (by omega)]; refine congrArg (Value.int .i64) ?_; omega), HB5⟩
                case measure => simp [intOf]
              · have hba : bA = 0 := by rw [← HbA.out, if_neg hj0]
                have z1 : ((j : Int) == 0) = false := beq_eq_false_iff_ne.2 (by omega)
                clear hj0
                go_wp2_with fail
                go_roundw
                case rel => exact ⟨1, by omega, rfl, by simp only [pbK_0, pbK_1, pbK_2, pbK_3, paK_0, paK_1, paK_2, paK_3, hd, hba] <;> first | rfl | (rw [wr_small (by omega) (by omega)]; refine congrArg (Value.int .i64) ?_; omega), by simp only [pbK_0, pbK_1, pbK_2, pbK_3, paK_0, paK_1, paK_2, paK_3, hd, hba] <;> first | rfl | (rw [wr_small (by omega) (by omega)]; refine congrArg (Value.int .i64) ?_; omega), HB5⟩
                case measure => simp [intOf]
          · go_wp2_with fail
            have n1 : IntKind.i64.wrap 2 = 2 := by decide
            have n2 : Int.tmod 2 3 = 2 := by decide
            refine wp_region_held_drew (S := fun w' => w'.cell? ⟨gq, 0, none⟩ = some (.int .i64 (i : Nat)) ∧ w'.cell? ⟨gq, 1, none⟩ = some (.int .i64 (j : Nat)) ∧ w'.cell? ⟨gq, 2, none⟩ = some (.int .i64 ((i : Int) + 1)) ∧ w'.cell? ⟨gq, 3, none⟩ = some (.int .i64 (j : Nat)) ∧ w'.cell? ⟨gq, 4, none⟩ = some (.int .i64 (i : Nat)) ∧ w'.cell? ⟨gq, 5, none⟩ = some (.int .i64 ((j : Int) + 1))) (by kernel_rfl) ?_ (fun hHeld => ?_)
            · exact ⟨o0, o1, o2, o3, o4, o5⟩
            refine wpAnyH_takeL (i := 0) (v := ?_) rfl (by kernel_rfl) (by kernel_rfl) (by kernel_rfl) (fun _ _ _ h => h) (Or.inl ⟨by rfl, ?_⟩) hHeld ?_
            rotate_left
            · intro w hSw
              (try dsimp only at hSw)
              go_simp
              all_goals with_reducible rfl
            try simp only [Act.put, List.setIfInBounds_toArray, List.set_cons_zero, List.set_cons_succ]
            refine wpAnyH_takeL (i := 1) (v := ?_) rfl (by kernel_rfl) (by kernel_rfl) (by kernel_rfl) (fun _ _ _ h => h) (Or.inl ⟨by rfl, ?_⟩) hHeld ?_
            rotate_left
            · intro w hSw
              (try dsimp only at hSw)
              go_simp
              all_goals with_reducible rfl
            try simp only [Act.put, List.setIfInBounds_toArray, List.set_cons_zero, List.set_cons_succ]
            refine wpAnyH_takeL (i := 2) (v := ?_) rfl (by kernel_rfl) (by kernel_rfl) (by kernel_rfl) (fun _ _ _ h => h) (Or.inl ⟨by rfl, ?_⟩) hHeld ?_
            rotate_left
            · intro w hSw
              (try dsimp only at hSw)
              go_simp
              all_goals with_reducible rfl
            try simp only [Act.put, List.setIfInBounds_toArray, List.set_cons_zero, List.set_cons_succ]
            refine wpAnyH_takeL (i := 3) (v := ?_) rfl (by kernel_rfl) (by kernel_rfl) (by kernel_rfl) (fun _ _ _ h => h) (Or.inl ⟨by rfl, ?_⟩) hHeld ?_
            rotate_left
            · intro w hSw
              (try dsimp only at hSw)
              go_simp
              all_goals with_reducible rfl
            try simp only [Act.put, List.setIfInBounds_toArray, List.set_cons_zero, List.set_cons_succ]
            refine wpAnyH_takeL (i := 4) (v := ?_) rfl (by kernel_rfl) (by kernel_rfl) (by kernel_rfl) (fun _ _ _ h => h) (Or.inl ⟨by rfl, ?_⟩) hHeld ?_
            rotate_left
            · intro w hSw
              (try dsimp only at hSw)
              go_simp
              all_goals with_reducible rfl
            try simp only [Act.put, List.setIfInBounds_toArray, List.set_cons_zero, List.set_cons_succ]
            refine wpAnyH_takeL (i := 5) (v := ?_) rfl (by kernel_rfl) (by kernel_rfl) (by kernel_rfl) (fun _ _ _ h => h) (Or.inl ⟨by rfl, ?_⟩) hHeld ?_
            rotate_left
            · intro w hSw
              (try dsimp only at hSw)
              go_simp
              all_goals with_reducible rfl
            try simp only [Act.put, List.setIfInBounds_toArray, List.set_cons_zero, List.set_cons_succ]
            refine wpAnyH_takeL (i := 6) (v := ?_) rfl (by kernel_rfl) (by kernel_rfl) (by kernel_rfl) (fun _ _ _ h => h) (Or.inl ⟨by rfl, ?_⟩) hHeld ?_
            rotate_left
            · intro w hSw
              (try dsimp only at hSw)
              go_simp
              all_goals with_reducible rfl
            try simp only [Act.put, List.setIfInBounds_toArray, List.set_cons_zero, List.set_cons_succ]
            refine wpAnyH_takeL (i := 7) (v := ?_) rfl (by kernel_rfl) (by kernel_rfl) (by kernel_rfl) (fun _ _ _ h => h) (Or.inl ⟨by rfl, ?_⟩) hHeld ?_
            rotate_left
            · intro w hSw
              (try dsimp only at hSw)
              go_simp
              all_goals with_reducible rfl
            try simp only [Act.put, List.setIfInBounds_toArray, List.set_cons_zero, List.set_cons_succ]
            refine wpAnyH_takeL (i := 8) (v := ?_) rfl (by kernel_rfl) (by kernel_rfl) (by kernel_rfl) (fun _ _ _ h => h) (Or.inl ⟨by rfl, ?_⟩) hHeld ?_
            rotate_left
            · intro w hSw
              (try dsimp only at hSw)
              go_simp
              all_goals with_reducible rfl
            try simp only [Act.put, List.setIfInBounds_toArray, List.set_cons_zero, List.set_cons_succ]
            refine wpAnyH_takeL (i := 9) (v := ?_) rfl (by kernel_rfl) (by kernel_rfl) (by kernel_rfl) (fun _ _ _ h => h) (Or.inl ⟨by rfl, ?_⟩) hHeld ?_
            rotate_left
            · intro w hSw
              (try dsimp only at hSw)
              go_simp
              all_goals with_reducible rfl
            try simp only [Act.put, List.setIfInBounds_toArray, List.set_cons_zero, List.set_cons_succ]
            refine wpAnyH_ready (rs := [10]) (by kernel_rfl) (by simp) (AllReadyH.consL rfl (fun K hK => ?_) AllReadyH.nil)
            go_simp
            refine (HD1.out _).mono ?_
            rintro e w5 ⟨rfl, hb6⟩
            have hb5 : Below wr.heap.size wr w5 := below_then (below_drew (Below.refl wr.heap.size wr)) (Nat.le_refl _) hb6
            clear hb6
            refine hK.out _ _ ?_ (fun hHeld => ?_)
            · exact ⟨cell_below hb5 o0, cell_below hb5 o1, cell_below hb5 o2, cell_below hb5 o3, cell_below hb5 o4, cell_below hb5 o5⟩
            clear hK K
            try simp only [Act.put, List.setIfInBounds_toArray, List.set_cons_zero, List.set_cons_succ]
            refine wpAnyH_done (by kernel_rfl) ?_ _
            have HB5 := Aside0.mk (below_then HBw.out HBw.out.size hb5)
            have p0 := cell_below hb5 o0
            have p1 := cell_below hb5 o1
            have p2 := cell_below hb5 o2
            have p3 := cell_below hb5 o3
            have p4 := cell_below hb5 o4
            have p5 := cell_below hb5 o5
            clear hb5 hHeld o0 o1 o2 o3 o4 o5
            cases x1 with
            | false =>
              have hd : dC = 0 := by rw [← HCc.out]; rfl
              go_wp2_with fail
              go_roundw
              case rel => exact ⟨2, by omega, rfl, by simp only [pbK_0, pbK_1, pbK_2, pbK_3, paK_0, paK_1, paK_2, paK_3, hd] <;> first | rfl | (rw [wr_small (by omega) (by omega)]; refine congrArg (Value.int .i64) ?_; omega), by simp only [pbK_0, pbK_1, pbK_2, pbK_3, paK_0, paK_1, paK_2, paK_3, hd] <;> first | rfl | (rw [wr_small (by omega) (by omega)]; refine congrArg (Value.int .i64) ?_; omega), HB5⟩
              case measure => simp [intOf]
            | true =>
              have hd : dC = 1 := by rw [← HCc.out]; rfl
              have z2 : ((j : Int) + 1 == 0) = false := beq_eq_false_iff_ne.2 (by omega)
              rcases Bool.eq_false_or_eq_true ((j : Int) == 0) with z1 | z1
              all_goals
                go_wp2_with fail
                go_roundw
                case rel => exact ⟨2, by omega, rfl, by simp only [pbK_0, pbK_1, pbK_2, pbK_3, paK_0, paK_1, paK_2, paK_3, hd] <;> first | rfl | (rw [wr_small (by omega) (by omega)]; refine congrArg (Value.int .i64) ?_; omega), by simp only [pbK_0, pbK_1, pbK_2, pbK_3, paK_0, paK_1, paK_2, paK_3, hd] <;> first | rfl | (rw [wr_small (by omega) (by omega)]; refine congrArg (Value.int .i64) ?_; omega), HB5⟩
                case measure => simp [intOf]
          · go_wp2_with fail
            have n1 : IntKind.i64.wrap 3 = 3 := by decide
            have n2 : Int.tmod 3 3 = 0 := by decide
            refine wp_region_held_drew (S := fun w' => w'.cell? ⟨gq, 0, none⟩ = some (.int .i64 (i : Nat)) ∧ w'.cell? ⟨gq, 1, none⟩ = some (.int .i64 (j : Nat)) ∧ w'.cell? ⟨gq, 2, none⟩ = some (.int .i64 ((i : Int) + 1)) ∧ w'.cell? ⟨gq, 3, none⟩ = some (.int .i64 (j : Nat)) ∧ w'.cell? ⟨gq, 4, none⟩ = some (.int .i64 (i : Nat)) ∧ w'.cell? ⟨gq, 5, none⟩ = some (.int .i64 ((j : Int) + 1))) (by kernel_rfl) ?_ (fun hHeld => ?_)
            · exact ⟨o0, o1, o2, o3, o4, o5⟩
            refine wpAnyH_takeL (i := 0) (v := ?_) rfl (by kernel_rfl) (by kernel_rfl) (by kernel_rfl) (fun _ _ _ h => h) (Or.inl ⟨by rfl, ?_⟩) hHeld ?_
            rotate_left
            · intro w hSw
              (try dsimp only at hSw)
              go_simp
              all_goals with_reducible rfl
            try simp only [Act.put, List.setIfInBounds_toArray, List.set_cons_zero, List.set_cons_succ]
            refine wpAnyH_takeL (i := 1) (v := ?_) rfl (by kernel_rfl) (by kernel_rfl) (by kernel_rfl) (fun _ _ _ h => h) (Or.inl ⟨by rfl, ?_⟩) hHeld ?_
            rotate_left
            · intro w hSw
              (try dsimp only at hSw)
              go_simp
              all_goals with_reducible rfl
            try simp only [Act.put, List.setIfInBounds_toArray, List.set_cons_zero, List.set_cons_succ]
            refine wpAnyH_takeL (i := 2) (v := ?_) rfl (by kernel_rfl) (by kernel_rfl) (by kernel_rfl) (fun _ _ _ h => h) (Or.inl ⟨by rfl, ?_⟩) hHeld ?_
            rotate_left
            · intro w hSw
              (try dsimp only at hSw)
              go_simp
              all_goals with_reducible rfl
            try simp only [Act.put, List.setIfInBounds_toArray, List.set_cons_zero, List.set_cons_succ]
            refine wpAnyH_takeL (i := 3) (v := ?_) rfl (by kernel_rfl) (by kernel_rfl) (by kernel_rfl) (fun _ _ _ h => h) (Or.inl ⟨by rfl, ?_⟩) hHeld ?_
            rotate_left
            · intro w hSw
              (try dsimp only at hSw)
              go_simp
              all_goals with_reducible rfl
            try simp only [Act.put, List.setIfInBounds_toArray, List.set_cons_zero, List.set_cons_succ]
            refine wpAnyH_takeL (i := 4) (v := ?_) rfl (by kernel_rfl) (by kernel_rfl) (by kernel_rfl) (fun _ _ _ h => h) (Or.inl ⟨by rfl, ?_⟩) hHeld ?_
            rotate_left
            · intro w hSw
              (try dsimp only at hSw)
              go_simp
              all_goals with_reducible rfl
            try simp only [Act.put, List.setIfInBounds_toArray, List.set_cons_zero, List.set_cons_succ]
            refine wpAnyH_takeL (i := 5) (v := ?_) rfl (by kernel_rfl) (by kernel_rfl) (by kernel_rfl) (fun _ _ _ h => h) (Or.inl ⟨by rfl, ?_⟩) hHeld ?_
            rotate_left
            · intro w hSw
              (try dsimp only at hSw)
              go_simp
              all_goals with_reducible rfl
            try simp only [Act.put, List.setIfInBounds_toArray, List.set_cons_zero, List.set_cons_succ]
            refine wpAnyH_takeL (i := 6) (v := ?_) rfl (by kernel_rfl) (by kernel_rfl) (by kernel_rfl) (fun _ _ _ h => h) (Or.inl ⟨by rfl, ?_⟩) hHeld ?_
            rotate_left
            · intro w hSw
              (try dsimp only at hSw)
              go_simp
              all_goals with_reducible rfl
            try simp only [Act.put, List.setIfInBounds_toArray, List.set_cons_zero, List.set_cons_succ]
            refine wpAnyH_takeL (i := 7) (v := ?_) rfl (by kernel_rfl) (by kernel_rfl) (by kernel_rfl) (fun _ _ _ h => h) (Or.inl ⟨by rfl, ?_⟩) hHeld ?_
            rotate_left
            · intro w hSw
              (try dsimp only at hSw)
              go_simp
              all_goals with_reducible rfl
            try simp only [Act.put, List.setIfInBounds_toArray, List.set_cons_zero, List.set_cons_succ]
            refine wpAnyH_takeL (i := 8) (v := ?_) rfl (by kernel_rfl) (by kernel_rfl) (by kernel_rfl) (fun _ _ _ h => h) (Or.inl ⟨by rfl, ?_⟩) hHeld ?_
            rotate_left
            · intro w hSw
              (try dsimp only at hSw)
              go_simp
              all_goals with_reducible rfl
            try simp only [Act.put, List.setIfInBounds_toArray, List.set_cons_zero, List.set_cons_succ]
            refine wpAnyH_takeL (i := 9) (v := ?_) rfl (by kernel_rfl) (by kernel_rfl) (by kernel_rfl) (fun _ _ _ h => h) (Or.inl ⟨by rfl, ?_⟩) hHeld ?_
            rotate_left
            · intro w hSw
              (try dsimp only at hSw)
              go_simp
              all_goals with_reducible rfl
            try simp only [Act.put, List.setIfInBounds_toArray, List.set_cons_zero, List.set_cons_succ]
            refine wpAnyH_ready (rs := [10]) (by kernel_rfl) (by simp) (AllReadyH.consL rfl (fun K hK => ?_) AllReadyH.nil)
            go_simp
            refine (HD2.out _).mono ?_
            rintro e w5 ⟨rfl, hb6⟩
            have hb5 : Below wr.heap.size wr w5 := below_then (below_drew (Below.refl wr.heap.size wr)) (Nat.le_refl _) hb6
            clear hb6
            refine hK.out _ _ ?_ (fun hHeld => ?_)
            · exact ⟨cell_below hb5 o0, cell_below hb5 o1, cell_below hb5 o2, cell_below hb5 o3, cell_below hb5 o4, cell_below hb5 o5⟩
            clear hK K
            try simp only [Act.put, List.setIfInBounds_toArray, List.set_cons_zero, List.set_cons_succ]
            refine wpAnyH_done (by kernel_rfl) ?_ _
            have HB5 := Aside0.mk (below_then HBw.out HBw.out.size hb5)
            have p0 := cell_below hb5 o0
            have p1 := cell_below hb5 o1
            have p2 := cell_below hb5 o2
            have p3 := cell_below hb5 o3
            have p4 := cell_below hb5 o4
            have p5 := cell_below hb5 o5
            clear hb5 hHeld o0 o1 o2 o3 o4 o5
            cases x2 with
            | false =>
              have hd : dB = 0 := by rw [← HBb.out]; rfl
              go_wp2_with fail
              go_roundw
              case rel => exact ⟨3, by omega, rfl, by simp only [pbK_0, pbK_1, pbK_2, pbK_3, paK_0, paK_1, paK_2, paK_3, hd] <;> first | rfl | (rw [wr_small (by omega) (by omega)]; refine congrArg (Value.int .i64) ?_; omega), by simp only [pbK_0, pbK_1, pbK_2, pbK_3, paK_0, paK_1, paK_2, paK_3, hd] <;> first | rfl | (rw [wr_small (by omega) (by omega)]; refine congrArg (Value.int .i64) ?_; omega), HB5⟩
              case measure => simp [intOf]
            | true =>
              have hd : dB = 1 := by rw [← HBb.out]; rfl
              have z2 : ((j : Int) + 1 == 0) = false := beq_eq_false_iff_ne.2 (by omega)
              go_wp2_with fail
              go_roundw
              case rel => exact ⟨3, by omega, rfl, by simp only [pbK_0, pbK_1, pbK_2, pbK_3, paK_0, paK_1, paK_2, paK_3, hd] <;> first | rfl | (rw [wr_small (by omega) (by omega)]; refine congrArg (Value.int .i64) ?_; omega), by simp only [pbK_0, pbK_1, pbK_2, pbK_3, paK_0, paK_1, paK_2, paK_3, hd] <;> first | rfl | (rw [wr_small (by omega) (by omega)]; refine congrArg (Value.int .i64) ?_; omega), HB5⟩
              case measure => simp [intOf]
          · go_wp2_with fail
            go_roundw
            case rel => exact ⟨q + 1, hqQ, by go_num, by rw [HSB.out]; rfl, by rw [HSA.out]; rfl, ⟨below_then HB4.out HB4.out.size HBw.out⟩⟩
            case measure => simp [intOf]; omega
      · have hca : adC N l (cel 1 i j) = 0 := rfl
        have hcb : bdC N l (cel 1 i j) = 0 := by
          unfold bdC
          rw [if_neg (fun h => by have h1 : ((1 : Nat) : Int) = 0 := h.1; omega)]
        rw [hca, Nat.add_zero] at hsa
        rw [hcb, Nat.add_zero] at hsb
        have HSA := Aside0.mk hsa
        have HSB := Aside0.mk hsb
        clear hsa hsb hca hcb hrd hx hlt g0 g1 g2 hij HDo
        go_wp2_with fail
        go_roundw
        case rel => exact ⟨q + 1, hqQ, by go_num, by rw [HSB.out]; rfl, by rw [HSA.out]; rfl, HBr⟩
        case measure => simp [intOf]; omega
    · obtain rfl : q = Q := by omega
      have dq : decide ((q : Int) < (q : Int)) = false := decide_eq_false (by omega)
      have HRa := Aside0.mk (show alT N l q = alL N l by rw [← HQ.out, alT_all])
      have HLa := Aside0.mk (show bdT N l q = bdL N l by rw [← HQ.out, bdT_all])
      go_wp2_with fail
      go_ret3
      refine ⟨below_then HB2.out HB2.out.size HBr.out, ?_⟩
      rw [if_pos HE.out, Int.toNat_natCast, HLs.out, HRa.out, HLa.out]
      rfl
set_option maxHeartbeats 6400000 in
set_option maxRecDepth 100000 in
theorem rdoors_bad (n : Int) (s : ByteArray) (w : World) (hs : s.size ≤ 1000000) (hE : triE n s ≠ 0) :
    Calls Tryd.prog 37 #[.int .i64 n, .string s] w (DoorsPost n s w) := by
  have HTr := Aside0.mk (triangle_any n s w hs)
  have HP : Aside0 (∀ w', Below w.heap.size w w' → DoorsPost n s w (.returned (.tuple #[.int .i64 0, .int .i64 0, .int .i64 (triE n s)])) w') := ⟨fun w' hb => ⟨hb, by rw [if_neg hE]⟩⟩
  have hz : (triE n s == 0) = false := beq_eq_false_iff_ne.2 hE
  clear hE
  generalize triE n s = z at *
  go_enter Tryd.func37, Tryd.ntmps37
  go_wp2_with fail
  refine HTr.out.mono ?_
  rintro e w1 ⟨rfl, hb1⟩
  have HB := Aside0.mk hb1
  clear hb1
  go_wp2_with fail
  go_ret3
  exact HP.out _ HB.out
theorem rdoors_call (n : Int) (s : ByteArray) (w : World) (hs : s.size ≤ 1000000) : Calls Tryd.prog 37 #[.int .i64 n, .string s] w (DoorsPost n s w) := by
  by_cases hE : triE n s = 0
  · exact rdoors_good n s w hs hE
  · exact rdoors_bad n s w hs hE
end Go.Proofs.YtlmgkmmdaecpdaaDoor.Im

namespace Go.Proofs.YtlmgkmmdaecpdaaDoor.Im
open Go.RowKit Go.Proofs.YtlmgkmmdaecpdaaDoorW.PrintWords Go.Proofs.YtlmgkmmdaecpdaaDoorW.PrintLast Go.Proofs.YtlmgkmmdaecpdaaDoorW.PrintMore Go.Proofs.YtlmgkmmdaecpdaaDoor.Mi
set_option linter.unusedVariables false
set_option linter.unusedSimpArgs false
theorem ix0 (v0 v1 v2 v3 v4 v5 v6 v7 v8 v9 va vb : Value) (w : World) : (Instr.index 98 (.agg #[v0, v1, v2, v3, v4, v5, v6, v7, v8, v9, va, vb]) (.int .i64 0)).run Tryd.prog w = .ok (.agg #[v0, v1, v2, v3]) w := by kernel_rfl
theorem ix1 (v0 v1 v2 v3 v4 v5 v6 v7 v8 v9 va vb : Value) (w : World) : (Instr.index 98 (.agg #[v0, v1, v2, v3, v4, v5, v6, v7, v8, v9, va, vb]) (.int .i64 1)).run Tryd.prog w = .ok (.agg #[v4, v5, v6, v7]) w := by kernel_rfl
theorem ix2 (v0 v1 v2 v3 v4 v5 v6 v7 v8 v9 va vb : Value) (w : World) : (Instr.index 98 (.agg #[v0, v1, v2, v3, v4, v5, v6, v7, v8, v9, va, vb]) (.int .i64 2)).run Tryd.prog w = .ok (.agg #[v8, v9, va, vb]) w := by kernel_rfl
def edA (k i j : Nat) : Array Value := if k = 0 then #[.int .i64 (i : Nat), .int .i64 (j : Nat), .int .i64 ((i : Int) + 1), .int .i64 (j : Nat), .int .i64 (i : Nat), .int .i64 (j : Nat), .int .i64 (i : Nat), .int .i64 ((j : Int) + 1), .int .i64 (i : Nat), .int .i64 ((j : Int) + 1), .int .i64 ((i : Int) + 1), .int .i64 (j : Nat)]
  else #[.int .i64 (i : Nat), .int .i64 ((j : Int) + 1), .int .i64 ((i : Int) + 1), .int .i64 (j : Nat), .int .i64 ((i : Int) + 1), .int .i64 (j : Nat), .int .i64 ((i : Int) + 1), .int .i64 ((j : Int) + 1), .int .i64 (i : Nat), .int .i64 ((j : Int) + 1), .int .i64 ((i : Int) + 1), .int .i64 ((j : Int) + 1)]
theorem edges_any (k i j : Nat) (w : World) (hk : k ≤ 1) (hi : i ≤ 20) (hj : j ≤ 20) : Calls Tryd.prog 70 #[.agg #[.int .i64 (k : Nat), .int .i64 (i : Nat), .int .i64 (j : Nat)]] w fun e w' => e = .returned (.agg (edA k i j)) ∧ Below w.heap.size w w' := by
  rcases (show k = 0 ∨ k = 1 by omega) with rfl | rfl
  · exact edges_0 i j w hi hj
  · exact edges_1 i j w hi hj
theorem ix_any (k i j r : Nat) (hk : k ≤ 1) (hr : r < 3) : ∃ e, (edsC (k, i, j))[r]? = some e ∧ ∀ w, (Instr.index 98 (.agg (edA k i j)) (.int .i64 (r : Nat))).run Tryd.prog w = .ok (edV e) w := by
  rcases (show k = 0 ∨ k = 1 by omega) with rfl | rfl <;> rcases (show r = 0 ∨ r = 1 ∨ r = 2 by omega) with rfl | rfl | rfl
  · exact ⟨(0, i, j), rfl, fun w => ix0 _ _ _ _ _ _ _ _ _ _ _ _ w⟩
  · exact ⟨(1, i, j), rfl, fun w => ix1 _ _ _ _ _ _ _ _ _ _ _ _ w⟩
  · exact ⟨(2, i, j), rfl, fun w => ix2 _ _ _ _ _ _ _ _ _ _ _ _ w⟩
  · exact ⟨(2, i, j), rfl, fun w => ix0 _ _ _ _ _ _ _ _ _ _ _ _ w⟩
  · exact ⟨(1, i + 1, j), rfl, fun w => ix1 _ _ _ _ _ _ _ _ _ _ _ _ w⟩
  · exact ⟨(0, i, j + 1), rfl, fun w => ix2 _ _ _ _ _ _ _ _ _ _ _ _ w⟩
theorem edsC_len (x : Tri3) : (edsC x).length = 3 := by unfold edsC; split <;> rfl
def c3 (x : S77) : Tri3 := (x.f0.toNat, x.f1.toNat, x.f2.toNat)
def doT (n : Nat) (l : List UInt8) (q : Nat) : List Tri3 := putsE (cC n l) [] (((cellsL n).take q).flatMap fun x => edsC (c3 x))
def doI (n : Nat) (l : List UInt8) (q : Nat) (x : Tri3) (r : Nat) : List Tri3 := putsE (cC n l) (doT n l q) ((edsC x).take r)
theorem doI_succ (n : Nat) (l : List UInt8) (q : Nat) (x : Tri3) {r : Nat} {e : Tri3} (he : (edsC x)[r]? = some e) : doI n l q x (r + 1) = putE (cC n l) (doI n l q x r) e := by
  unfold doI
  obtain ⟨hr, h2⟩ := List.getElem?_eq_some_iff.1 he
  rw [List.take_succ_eq_append_getElem hr, puts_app, h2]
  rfl
theorem doI_all (n : Nat) (l : List UInt8) {q : Nat} (hq : q < (cellsL n).length) {x : Tri3} (hx : c3 (cellsL n)[q] = x) : doI n l q x 3 = doT n l (q + 1) := by
  have e3 : (edsC x).take 3 = edsC x := List.take_of_length_le (by rw [edsC_len]; exact Nat.le_refl _)
  have e4 : [(cellsL n)[q]].flatMap (fun x => edsC (c3 x)) = edsC x := by rw [← hx, List.flatMap_cons, List.flatMap_nil, List.append_nil]
  unfold doI doT
  rw [e3, List.take_succ_eq_append_getElem hq, List.flatMap_append, puts_app, e4]
def siB (e : Tri3) : Bool := decide ((edP e).2 = 0) && decide ((edQ e).2 = 0)
def upE (n : Nat) : List Tri3 := (celI n 0 n).flatMap fun x => edsC (c3 x)
theorem cells_two {n : Nat} (h1 : 1 ≤ n) : cellsL n = celI n 0 n ++ celI n 1 (n - 1) := by
  rw [show cellsL n = celK n (1 + 1) from rfl, celK_succ, show celK n 1 = celK n (0 + 1) from rfl, celK_succ]
  rfl
theorem mem_celI {n k m : Nat} {x : S77} : x ∈ celI n k m ↔ ∃ i j : Nat, i < m ∧ j < n - k - i ∧ x = cel k i j := by
  unfold celI celR
  simp only [List.mem_flatMap, List.mem_range, List.mem_map]
  constructor
  · rintro ⟨i, hi, j, hj, rfl⟩
    exact ⟨i, j, hi, hj, rfl⟩
  · rintro ⟨i, j, hi, hj, rfl⟩
    exact ⟨i, hi, j, hj, rfl⟩
theorem c3_cel (k i j : Nat) : c3 (cel k i j) = (k, i, j) := rfl
theorem cel_inj {k i j k' i' j' : Nat} (h : cel k i j = cel k' i' j') : k = k' ∧ i = i' ∧ j = j' := by
  have := congrArg c3 h
  rw [c3_cel, c3_cel] at this
  simpa using this
theorem upp_of {i j : Nat} {e : Tri3} (h : e ∈ edsC (0, i, j)) : uppC e = (0, i, j) := by
  unfold edsC at h
  simp only [if_true, List.mem_cons, List.not_mem_nil, or_false] at h
  rcases h with rfl | rfl | rfl <;> rfl
theorem upE_nodup (n : Nat) : (upE n).Nodup := by
  unfold upE
  rw [List.nodup_iff_pairwise_ne, List.pairwise_flatMap]
  refine ⟨fun x hx => edsC_nodup _, ?_⟩
  have hc : (celI n 0 n).Pairwise (· ≠ ·) := by
    unfold celI
    rw [List.pairwise_flatMap]
    refine ⟨fun i hi => ?_, ?_⟩
    · unfold celR
      rw [List.pairwise_map]
      exact (List.nodup_iff_pairwise_ne.1 List.nodup_range).imp fun {a b} hab h => hab (cel_inj h).2.2
    · refine (List.nodup_iff_pairwise_ne.1 List.nodup_range).imp fun {a b} hab x hx y hy h => ?_
      unfold celR at hx hy
      obtain ⟨p, _, rfl⟩ := List.mem_map.1 hx
      obtain ⟨q, _, rfl⟩ := List.mem_map.1 hy
      exact hab (cel_inj h).2.1
  refine List.Pairwise.imp_of_mem ?_ hc
  intro x y hx hy hxy e he f hf h
  subst h
  obtain ⟨i, j, _, _, rfl⟩ := mem_celI.1 hx
  obtain ⟨i', j', _, _, rfl⟩ := mem_celI.1 hy
  rw [c3_cel] at he hf
  have h1 := upp_of he
  have h2 := upp_of hf
  rw [h1] at h2
  refine hxy ?_
  have h3 : i = i' ∧ j = j' := by simpa using h2
  rw [h3.1, h3.2]
theorem mem_upE {n : Nat} {e : Tri3} (h : edOk n e) : e ∈ upE n := by
  obtain ⟨h1, h2⟩ := uppC_ok h
  unfold upE
  refine List.mem_flatMap.2 ⟨cel 0 e.2.1 e.2.2, mem_celI.2 ⟨e.2.1, e.2.2, ?_, ?_, rfl⟩, h2⟩
  · have := h.2; omega
  · have := h.2; omega
theorem doT_all {n : Nat} (l : List UInt8) (h1 : 1 ≤ n) : doT n l (cellsL n).length = (upE n).filter (doorC (cC n l)) := by
  unfold doT
  rw [List.take_length, cells_two h1, List.flatMap_append, puts_app]
  have e1 : putsE (cC n l) [] ((celI n 0 n).flatMap fun x => edsC (c3 x)) = (upE n).filter (doorC (cC n l)) := by
    rw [show ((celI n 0 n).flatMap fun x => edsC (c3 x)) = upE n from rfl, puts_nodup _ _ _ (upE_nodup n) (fun e _ h => by cases h)]
    rfl
  rw [e1]
  refine puts_known _ _ _ fun e he hd => List.mem_filter.2 ⟨?_, hd⟩
  obtain ⟨x, hx, he2⟩ := List.mem_flatMap.1 he
  obtain ⟨i, j, hi, hj, rfl⟩ := mem_celI.1 hx
  rw [c3_cel] at he2
  exact mem_upE (edsC_ok (n := n) (x := (1, i, j)) ⟨Nat.le_refl _, by show i + j + 1 + 1 ≤ n; omega⟩ he2)
theorem sum_zero {f : S77 → Nat} : ∀ {xs : List S77}, (∀ x ∈ xs, f x = 0) → (xs.map f).sum = 0
  | [], _ => rfl
  | x :: xs, h => by rw [List.map_cons, List.sum_cons, h x (by simp), sum_zero (fun y hy => h y (by simp [hy]))]
theorem sum_cong {f g : S77 → Nat} : ∀ {xs : List S77}, (∀ x ∈ xs, f x = g x) → (xs.map f).sum = (xs.map g).sum
  | [], _ => rfl
  | x :: xs, h => by rw [List.map_cons, List.sum_cons, List.map_cons, List.sum_cons, h x (by simp), sum_cong (fun y hy => h y (by simp [hy]))]
theorem do_len {n : Nat} (l : List UInt8) (h1 : 1 ≤ n) : (doT n l (cellsL n).length).length = alL n l := by
  rw [doT_all l h1, ← List.countP_eq_length_filter]
  unfold upE alL
  rw [List.countP_flatMap, cells_two h1, List.map_append, List.sum_append, sum_zero (xs := celI n 1 (n - 1)) (fun x hx => by obtain ⟨i, j, _, _, rfl⟩ := mem_celI.1 hx; rfl), Nat.add_zero]
  refine sum_cong fun x hx => ?_
  obtain ⟨i, j, _, _, rfl⟩ := mem_celI.1 hx
  show List.countP (doorC (cC n l)) [(0, i, j), (1, i, j), (2, i, j)] = dN n l (0, i, j) + dN n l (2, i, j) + dN n l (1, i, j)
  unfold dN
  simp only [List.countP_cons, List.countP_nil]
  omega
theorem do_side {n : Nat} (l : List UInt8) (h1 : 1 ≤ n) : (doT n l (cellsL n).length).countP siB = bdL n l := by
  rw [doT_all l h1, List.countP_filter]
  unfold upE bdL
  rw [List.countP_flatMap, cells_two h1, List.map_append, List.sum_append, sum_zero (xs := celI n 1 (n - 1)) (fun x hx => by
    obtain ⟨i, j, _, _, rfl⟩ := mem_celI.1 hx
    unfold bdC
    rw [if_neg (fun h => by have h1 : ((1 : Nat) : Int) = 0 := h.1; omega)]), Nat.add_zero]
  refine sum_cong fun x hx => ?_
  obtain ⟨i, j, _, _, rfl⟩ := mem_celI.1 hx
  have s0 : siB (0, i, j) = decide (j = 0) := by
    show (decide (j = 0) && decide (j = 0)) = _
    rw [Bool.and_self]
  have s1 : siB (1, i, j) = false := by
    show (decide (j = 0) && decide (j + 1 = 0)) = false
    rw [decide_eq_false (show ¬ j + 1 = 0 by omega), Bool.and_false]
  have s2 : siB (2, i, j) = false := by
    show (decide (j + 1 = 0) && decide (j = 0)) = false
    rw [decide_eq_false (show ¬ j + 1 = 0 by omega), Bool.false_and]
  have hb : bdC n l (cel 0 i j) = if j = 0 then dN n l (0, i, j) else 0 := by
    unfold bdC
    by_cases hj : j = 0
    · rw [if_pos hj, if_pos ⟨rfl, by show (j : Int) = 0; omega⟩]; rfl
    · rw [if_neg hj, if_neg (fun h => hj (by have : (j : Int) = 0 := h.2; omega))]
  show List.countP (fun a => siB a && doorC (cC n l) a) [(0, i, j), (1, i, j), (2, i, j)] = _
  rw [hb]
  unfold dN
  simp only [List.countP_cons, List.countP_nil, s0, s1, s2, Bool.false_and]
  by_cases hj : j = 0
  · simp [hj]
  · simp [hj]
theorem own_keep {p : Nat → Prop} {w w' : World} {k : TypeId} {mb m : Nat} {D : DataW Unit} {R : Value → Option (DataW Unit × List MemPlace)} (h : w.ownsMap Tryd.prog k R mb m D) (hk : Keep p w w') (hp : p mb) : w'.ownsMap Tryd.prog k R mb m D := by
  have hl := h.lt
  obtain ⟨es, clock, h1, h2⟩ := h
  exact ⟨es, clock, (hk.block _ hl hp).trans h1, h2⟩
theorem Tri.keep {p : Nat → Prop} {w w' : World} {g n mb m : Nat} {l : List UInt8} {D : DataW Unit} (h : Tri w g n mb m l D) (hk : Keep p w w') (hg : p g) (hm : p mb) : Tri w' g n mb m l D :=
  ⟨hk.blk h.hd hg, own_keep h.own hk hm, h.all, h.n1, h.n20, h.len, h.ok⟩
theorem Keep.cell {p : Nat → Prop} {w w' : World} {a : Addr} {v : Value} (hk : Keep p w w') (h : w.cell? a = some v) (hp : p a.block) : w'.cell? a = some v := by
  have hb := hk.block _ (World.block_lt_of_cell? w a h) hp
  unfold World.cell? at h ⊢
  rw [hb]
  exact h
structure DoI (n gm : Nat) (L : List Tri3) (W0 wr : World) : Prop where
  keep : Keep (fun x => x ≠ gm) W0 wr
  own : ∃ D : DataW Unit, wr.ownsMap Tryd.prog 97 (plainElem Tryd.prog 4) gm L.length D ∧ EdS n L D
theorem DoI.later {n gm : Nat} {L : List Tri3} {W0 w w' : World} (h : DoI n gm L W0 w) (hb : Below w.heap.size w w') : DoI n gm L W0 w' := by
  obtain ⟨D, h1, h2⟩ := h.own
  exact ⟨h.keep.trans (Keep.of_below hb), D, own_below h1 hb, h2⟩
end Go.Proofs.YtlmgkmmdaecpdaaDoor.Im

namespace Go.Proofs.YtlmgkmmdaecpdaaDoor.Im
open Go.RowKit Go.Proofs.YtlmgkmmdaecpdaaDoorW.PrintWords Go.Proofs.YtlmgkmmdaecpdaaDoorW.PrintLast Go.Proofs.YtlmgkmmdaecpdaaDoorW.PrintMore Go.Proofs.YtlmgkmmdaecpdaaDoor.Mi
set_option linter.unusedVariables false
set_option linter.unusedSimpArgs false
theorem cells_few' {n : Nat} (h : n ≤ 20) : (cellsL n).length ≤ 800 := by have := celK_len (n := n) h 2; unfold cellsL; omega
theorem ed_open {n : Nat} (hn : n ≤ 20) {e : Tri3} (he : edOk n e) : ∃ a b c d : Nat, edV e = .agg #[.int .i64 (a : Nat), .int .i64 (b : Nat), .int .i64 (c : Nat), .int .i64 (d : Nat)] ∧ a + b ≤ n ∧ c + d ≤ n ∧ siB e = (decide (b = 0) && decide (d = 0)) ∧ (∀ (x : Nat → Nat → Nat), isD (x a b) (x c d) = doorC x e) ∧ keyOf Tryd.prog 97 (.agg #[.int .i64 (a : Nat), .int .i64 (b : Nat), .int .i64 (c : Nat), .int .i64 (d : Nat)]) = some (kE e) := by
  obtain ⟨h1, h2⟩ := ed_pts he
  exact ⟨_, _, _, _, rfl, h1, h2, rfl, fun x => rfl, key_E he hn⟩
set_option maxHeartbeats 12800000 in
set_option maxRecDepth 100000 in
theorem doors_good (n : Int) (s : ByteArray) (w : World) (hs : s.size ≤ 9223372036854775807) (hE : triE n s = 0) :
    Calls Tryd.prog 36 #[.int .i64 n, .string s] w (DoorsPost n s w) := by
  have HO := Aside0.mk (of_any n s w hs)
  have HE := Aside0.mk hE
  clear hE
  obtain ⟨l, hl⟩ : ∃ l, s.data.toList = l := ⟨_, rfl⟩
  have HLs := Aside0.mk hl
  have hmk := @run_makeMap Tryd.prog
  have hvt := plainElem_bool (H := Unit) (P := Tryd.prog) Tryd.underlying4 true
  clear hl
  go_enter Tryd.func36, Tryd.ntmps36
  go_wp2_with fail
  refine HO.out.mono ?_
  rintro e w1 ⟨hb1, h1⟩
  rw [if_pos HE.out] at h1
  obtain ⟨g, mb, m, D, rfl, ht, hg1, hm1⟩ := h1
  have hn1 := ht.n1
  obtain ⟨N, rfl⟩ : ∃ N : Nat, n = N := ⟨n.toNat, by omega⟩
  rw [Int.toNat_natCast, HLs.out] at ht
  rw [Int.toNat_natCast] at hn1
  obtain ⟨gm, hgm⟩ : ∃ gm, w1.heap.size = gm := ⟨_, rfl⟩
  have hbm : Below w1.heap.size w1 (w1.alloc (.map #[] 0)) := below_alloc (Below.refl _ _) _
  have hT1 := ht.later hbm
  have HB := Aside0.mk (below_then hb1 hb1.size hbm)
  have HGL : Aside0 (g < gm ∧ mb < gm) := ⟨by rw [← hgm]; exact ⟨ht.hd.lt, ht.own.lt⟩⟩
  have h20 := ht.n20
  have hown0 : (w1.alloc (.map #[] 0)).ownsMap Tryd.prog 97 (plainElem Tryd.prog 4) gm 0 (.map [] : DataW Unit) := hgm ▸ World.ownsMap_made w1 _ _ _
  have hsz0 : (w1.alloc (.map #[] 0)).heap.size = gm + 1 := by simp [hgm]
  go_wp2_with fail
  try rw [hgm]
  generalize w1.alloc (.map #[] 0) = W1 at *
  have HCe := Aside0.mk (cells_any g N (.map (some mb)) W1 hT1.hd hn1 h20)
  refine HCe.out.mono ?_
  rintro e w2 ⟨v, rfl, hR, hb2⟩
  obtain ⟨A, c, rfl, hl, hC⟩ := Kd.R_reads hR
  have HAd : Aside0 (∀ ad, A = some ad → 0 < (cellsL N).length → ad.block ≠ gm) := ⟨fun ad he hp => by
    obtain ⟨G, cap, e1, e2, _⟩ := Kd.R_form hR hp
    injection e1 with e3
    rw [he] at e3
    have e4 := Option.some.inj e3
    subst e4
    show G ≠ gm
    omega⟩
  have HC := Aside0.mk hC
  have HB2 := Aside0.mk (below_then HB.out HB.out.size hb2)
  have HT2 := Aside0.mk (hT1.later hb2)
  have HD0 : Aside0 (DoI N gm [] w2 w2) := ⟨⟨Keep.refl _ _, .map [], own_below hown0 hb2, EdS.start N⟩⟩
  have HGM : Aside0 (w.heap.size ≤ gm) := ⟨by have := hb1.size; omega⟩
  have hlen : (cellsL N).length ≤ 800 := cells_few' h20
  have H20 := Aside0.mk h20
  clear hC hb2 hR HB HCe hown0 hT1 ht hb1 hbm hmk hsz0 hgm HO
  obtain ⟨Q, hQ⟩ : ∃ Q, (cellsL N).length = Q := ⟨_, rfl⟩
  rw [hQ] at HC hl hlen HAd ⊢
  have HQ := Aside0.mk hQ
  clear hQ
  have HDl : Aside0 ((doT N l Q).length = alL N l ∧ (doT N l Q).countP siB = bdL N l) := ⟨by rw [← HQ.out]; exact ⟨do_len l hn1, do_side l hn1⟩⟩
  have HDm : Aside0 (∀ q x r, q < Q → (doI N l q x r).length ≤ 10000) := ⟨fun q x r hq => by
    have h1 : ∀ (P acc : List Tri3), (putsE (cC N l) acc P).length ≤ acc.length + P.length := fun P => by
      induction P with
      | nil => intro acc; exact Nat.le_refl _
      | cons e P ih =>
        intro acc
        have h2 := ih (putE (cC N l) acc e)
        have h3 : (putE (cC N l) acc e).length ≤ acc.length + 1 := by unfold putE; split <;> simp
        show (putsE (cC N l) (putE (cC N l) acc e) P).length ≤ _
        rw [List.length_cons]
        omega
    have h4 : ∀ ys : List S77, (ys.flatMap fun x => edsC (c3 x)).length = 3 * ys.length := fun ys => by
      induction ys with
      | nil => rfl
      | cons y ys ih => rw [List.flatMap_cons, List.length_append, ih, edsC_len, List.length_cons]; omega
    unfold doI doT
    have h5 := h1 ((edsC x).take r) (putsE (cC N l) [] (((cellsL N).take q).flatMap fun x => edsC (c3 x)))
    have h6 := h1 (((cellsL N).take q).flatMap fun x => edsC (c3 x)) []
    rw [h4, List.length_take] at h6
    rw [List.length_take, edsC_len] at h5
    have h7 : ([] : List Tri3).length = 0 := rfl
    omega⟩
  go_wp2_with fail
  go_loopw [10, 28] (fun v10 v28 wr => ∃ q : Nat, q ≤ Q ∧ v28 = .int .i64 (q : Int) ∧ v10 = .int .i64 ((doT N l q).countP siB : Nat) ∧ Aside0 (DoI N gm (doT N l q) w2 wr)) (fun _ v _ => Q - (intOf v).toNat)
  case atStart => exact ⟨0, Nat.zero_le _, rfl, rfl, HD0⟩
  case round =>
    clear HD0
    obtain ⟨q, hq, rfl, rfl, HDo⟩ := hrel
    by_cases hqQ : q < Q
    · have q0 : (0 : Int) ≤ (q : Int) := Int.natCast_nonneg q
      have q1 : (q : Int) < (Q : Int) := Int.ofNat_lt.2 hqQ
      have dq : decide ((q : Int) < (Q : Int)) = true := decide_eq_true q1
      obtain ⟨ad, rfl, c0, c1, c2⟩ := at_T77 HC.out (q : Int) q0 q1
      rw [Int.toNat_natCast] at c0 c1 c2
      have hlt : q < (cellsL N).length := by rw [HQ.out]; exact hqQ
      have hrd : rd_T77 (cellsL N) (q : Int) = (cellsL N)[q] := by
        unfold rd_T77
        rw [Int.toNat_natCast, List.getD_eq_getElem?_getD, List.getElem?_eq_getElem hlt]; rfl
      obtain ⟨k, i, j, hk, hij, hx⟩ := mem_cells.1 (List.getElem_mem hlt)
      rw [hrd, hx] at c0 c1 c2
      change w2.cell? (ad.add (q * 3)) = some (.int .i64 (k : Int)) at c0
      change w2.cell? ⟨(ad.add (q * 3)).block, (ad.add (q * 3)).off + 1, none⟩ = some (.int .i64 (i : Int)) at c1
      change w2.cell? ⟨(ad.add (q * 3)).block, (ad.add (q * 3)).off + 2, none⟩ = some (.int .i64 (j : Int)) at c2
      have hane : ad.block ≠ gm := HAd.out ad rfl (by omega)
      have e0 : wr.cell? (ad.add (q * 3)) = some (.int .i64 (k : Int)) := HDo.out.keep.cell c0 (by rw [add_block]; exact hane)
      have e1 : wr.cell? ⟨(ad.add (q * 3)).block, (ad.add (q * 3)).off + 1, none⟩ = some (.int .i64 (i : Int)) := HDo.out.keep.cell c1 (by show (ad.add (q * 3)).block ≠ gm; rw [add_block]; exact hane)
      have e2 : wr.cell? ⟨(ad.add (q * 3)).block, (ad.add (q * 3)).off + 2, none⟩ = some (.int .i64 (j : Int)) := HDo.out.keep.cell c2 (by show (ad.add (q * 3)).block ≠ gm; rw [add_block]; exact hane)
      have HAll := Aside0.mk (doI_all N l hlt (x := (k, i, j)) (by rw [hx]; exact c3_cel k i j))
      have hi20 : i ≤ 20 := by have := H20.out; omega
      have hj20 : j ≤ 20 := by have := H20.out; omega
      have HEd := Aside0.mk (fun w3 => edges_any k i j w3 hk hi20 hj20)
      have HIx := Aside0.mk (fun r hr => ix_any k i j r hk hr)
      have HOk : Aside0 (ceOk N (k, i, j)) := ⟨⟨hk, by show i + j + k + 1 ≤ N; omega⟩⟩
      clear c0 c1 c2 hrd hx hlt hij hane
      obtain ⟨EA, hEA⟩ : ∃ EA, edA k i j = EA := ⟨_, rfl⟩
      rw [hEA] at HEd HIx
      clear hEA
      go_wp2_with fail
      refine (HEd.out _).mono ?_
      rintro e w3 ⟨rfl, hb3⟩
      have HD3 := Aside0.mk ((HDo.out.later (below_alloc (Below.refl _ _) (.cells #[.int .i64 (k : Nat), .int .i64 (i : Nat), .int .i64 (j : Nat)] 81))).later hb3)
      clear hb3 HDo e0 e1 e2
      go_wp2_with fail
      go_loopw [10, 34] (fun v10 v34 wr => ∃ r : Nat, r ≤ 3 ∧ v34 = .int .i64 (r : Int) ∧ v10 = .int .i64 ((doI N l q (k, i, j) r).countP siB : Nat) ∧ Aside0 (DoI N gm (doI N l q (k, i, j) r) w2 wr)) (fun _ v _ => 3 - (intOf v).toNat)
      case atStart => exact ⟨0, Nat.zero_le _, rfl, rfl, HD3⟩
      case round =>
        clear HD3
        obtain ⟨r, hr, rfl, rfl, HDo⟩ := hrel
        by_cases hr3 : r < 3
        · have dr : decide ((r : Int) < 3) = true := decide_eq_true (by omega)
          obtain ⟨ed, hed, hix⟩ := HIx.out r hr3
          have heo : edOk N ed := edsC_ok HOk.out (List.mem_of_getElem? hed)
          have hsuc := doI_succ N l q (k, i, j) hed
          have hDm := HDm.out q (k, i, j) r hqQ
          obtain ⟨D1, hown, hes⟩ := HDo.out.own
          obtain ⟨a, b, c', d, hev, hab, hcd, hsi, hdo, hkey⟩ := ed_open H20.out heo
          have HLo := Aside0.mk (fun (W : World) (hb : Below wr.heap.size wr W) => hev ▸ eds_look (own_below hown hb) hes H20.out heo)
          rw [hev] at hix
          have HTr := Aside0.mk (fun (W : World) (hb : Below wr.heap.size wr W) => hdo (cC N l) ▸ door_any g N mb m l D a b c' d W ((HT2.out.keep HDo.out.keep (by have := HGL.out; omega) (by have := HGL.out; omega)).later hb) hab hcd)
          have HHE := Aside0.mk hes
          have HHO := Aside0.mk heo
          have HK := Aside0.mk hkey
          have hsc : putE (cC N l) (doI N l q (k, i, j) r) ed = if doorC (cC N l) ed && !(doI N l q (k, i, j) r).contains ed then doI N l q (k, i, j) r ++ [ed] else doI N l q (k, i, j) r := rfl
          rw [hsc] at hsuc
          have HSuc := Aside0.mk hsuc
          have HSi := Aside0.mk hsi
          have hcle : (doI N l q (k, i, j) r).countP siB ≤ 10000 := Nat.le_trans List.countP_le_length hDm
          clear hsuc hsc hev hes heo hab hcd hsi hdo hed
          obtain ⟨L2, hE2⟩ : ∃ L2, doI N l q (k, i, j) (r + 1) = L2 := ⟨_, rfl⟩
          rw [hE2] at HSuc
          have HE2 := Aside0.mk hE2
          clear hE2
          generalize doI N l q (k, i, j) r = L1 at *
          obtain ⟨bd, hbd⟩ : ∃ bd, doorC (cC N l) ed = bd := ⟨_, rfl⟩
          obtain ⟨bc, hbc⟩ : ∃ bc, L1.contains ed = bc := ⟨_, rfl⟩
          rw [hbd] at HTr HSuc
          rw [hbc] at HLo HSuc
          have HBc := Aside0.mk hbc
          clear hbd hbc
          obtain ⟨ge, hge⟩ : ∃ ge, wr.heap.size = ge := ⟨_, rfl⟩
          have hq := Blk.new wr 97 #[.int .i64 (a : Nat), .int .i64 (b : Nat), .int .i64 (c' : Nat), .int .i64 (d : Nat)]
          rw [hge] at hq
          have HQe := Aside0.mk hq
          have HGe : Aside0 (ge ≠ gm) := ⟨by have := hown.lt; omega⟩
          clear hq
          cases bd
          · have hL2 : L2 = L1 := by have := HSuc.out; rw [Bool.false_and, if_neg (by decide)] at this; exact this
            have HL2 := Aside0.mk hL2
            clear hL2 hown
            go_wp2_with fail
            refine (HTr.out _ (below_alloc (Below.refl _ _) _)).mono ?_
            rintro e w5 ⟨rfl, hb5⟩
            have HD5 := Aside0.mk ((HDo.out.later (below_alloc (Below.refl _ _) (.cells #[.int .i64 (a : Nat), .int .i64 (b : Nat), .int .i64 (c' : Nat), .int .i64 (d : Nat)] 97))).later hb5)
            clear hb5
            go_wp2_with fail
            go_roundw
            case rel => exact ⟨r + 1, hr3, by go_num, by rw [HE2.out, HL2.out], by rw [HE2.out, HL2.out]; exact HD5⟩
            case measure => simp [intOf]; omega
          · cases bc
            · have hL2 : L2 = L1 ++ [ed] := by have := HSuc.out; rw [Bool.not_false, Bool.and_true, if_pos rfl] at this; exact this
              have HL2 := Aside0.mk hL2
              have HNm : Aside0 (ed ∉ L1) := ⟨fun hm => by have := List.contains_iff_mem.2 hm; rw [HBc.out] at this; cases this⟩
              clear hL2
              go_wp2_with fail
              refine (HTr.out _ (below_alloc (Below.refl _ _) _)).mono ?_
              rintro e w5 ⟨rfl, hb5⟩
              have hb50 := below_then (below_alloc (Below.refl _ _) (.cells #[.int .i64 (a : Nat), .int .i64 (b : Nat), .int .i64 (c' : Nat), .int .i64 (d : Nat)] 97)) (by simp) hb5
              have HD5 := Aside0.mk (HDo.out.later hb50)
              have hlk := HLo.out w5 hb50
              have hown5 := own_below hown hb50
              have HQ5 := Aside0.mk (HQe.out.later hb5)
              have p0 : w5.cell? ⟨ge, 0, none⟩ = some (.int .i64 (a : Nat)) := HQ5.out.cell 0
              have p1 : w5.cell? ⟨ge, 1, none⟩ = some (.int .i64 (b : Nat)) := HQ5.out.cell 1
              have p2 : w5.cell? ⟨ge, 2, none⟩ = some (.int .i64 (c' : Nat)) := HQ5.out.cell 2
              have p3 : w5.cell? ⟨ge, 3, none⟩ = some (.int .i64 (d : Nat)) := HQ5.out.cell 3
              have hlm : L1.length < maxLen := by
                have : maxLen = 9223372036854775807 := rfl
                omega
              try rw [hge]
              clear hb5 hb50 hown
              cases hsb : (decide (b = 0) && decide (d = 0))
              · have HSb : Aside0 ((L1 ++ [ed]).countP siB = L1.countP siB) := ⟨by rw [List.countP_append, List.countP_singleton, HSi.out, hsb]; rfl⟩
                have z1 : ((b : Int) == 0) = decide (b = 0) := by rw [Bool.eq_iff_iff, beq_iff_eq, decide_eq_true_eq]; omega
                have z2 : ((d : Int) == 0) = decide (d = 0) := by rw [Bool.eq_iff_iff, beq_iff_eq, decide_eq_true_eq]; omega
                rcases Bool.eq_false_or_eq_true (decide (b = 0)) with y1 | y1
                · have y2 : decide (d = 0) = false := by rw [y1, Bool.true_and] at hsb; exact hsb
                  rw [y1] at z1
                  rw [y2] at z2
                  clear hsb y1 y2
                  go_wp2_with (at_mapUpdate; refine wpList_mapUpdate_own _ rfl _ _ _ 93 rfl 97 4 lawE Tryd.underlying93 _ gm L1.length D1 rfl hown5 hlm _ _ (kE ed) rfl rfl HK.out (.lit (.bool true)) [] hvt ?_; intro w6 hown6 hg6; have HW6 := Aside0.mk hown6; have HG6 := Aside0.mk hg6; have hkp := Keep.of_grown (p := fun x => x ≠ gm) hg6 (fun h => h rfl); have o0 := hkp.cell p0 HGe.out; have o1 := hkp.cell p1 HGe.out; have o2 := hkp.cell p2 HGe.out; have o3 := hkp.cell p3 HGe.out; clear hown6 hg6 hkp p0 p1 p2 p3 hown5 hlk)
                  go_roundw
                  case rel => exact ⟨r + 1, hr3, by go_num, by rw [HE2.out, HL2.out, HSb.out], ⟨⟨HD5.out.keep.trans (Keep.of_grown HG6.out (fun h => h rfl)), _, by rw [HE2.out, HL2.out, List.length_append]; exact HW6.out, by rw [HE2.out, HL2.out]; exact HHE.out.put H20.out HHO.out HNm.out⟩⟩⟩
                  case measure => simp [intOf]; omega
                · rw [y1] at z1
                  clear hsb y1 z2
                  go_wp2_with (at_mapUpdate; refine wpList_mapUpdate_own _ rfl _ _ _ 93 rfl 97 4 lawE Tryd.underlying93 _ gm L1.length D1 rfl hown5 hlm _ _ (kE ed) rfl rfl HK.out (.lit (.bool true)) [] hvt ?_; intro w6 hown6 hg6; have HW6 := Aside0.mk hown6; have HG6 := Aside0.mk hg6; have hkp := Keep.of_grown (p := fun x => x ≠ gm) hg6 (fun h => h rfl); have o0 := hkp.cell p0 HGe.out; have o1 := hkp.cell p1 HGe.out; have o2 := hkp.cell p2 HGe.out; have o3 := hkp.cell p3 HGe.out; clear hown6 hg6 hkp p0 p1 p2 p3 hown5 hlk)
                  go_roundw
                  case rel => exact ⟨r + 1, hr3, by go_num, by rw [HE2.out, HL2.out, HSb.out], ⟨⟨HD5.out.keep.trans (Keep.of_grown HG6.out (fun h => h rfl)), _, by rw [HE2.out, HL2.out, List.length_append]; exact HW6.out, by rw [HE2.out, HL2.out]; exact HHE.out.put H20.out HHO.out HNm.out⟩⟩⟩
                  case measure => simp [intOf]; omega
              · have HSb : Aside0 ((L1 ++ [ed]).countP siB = L1.countP siB + 1) := ⟨by rw [List.countP_append, List.countP_singleton, HSi.out, hsb]; rfl⟩
                have y := Bool.and_eq_true_iff.1 hsb
                have z1 : ((b : Int) == 0) = true := by rw [beq_iff_eq]; have := of_decide_eq_true y.1; omega
                have z2 : ((d : Int) == 0) = true := by rw [beq_iff_eq]; have := of_decide_eq_true y.2; omega
                clear hsb y
                go_wp2_with (at_mapUpdate; refine wpList_mapUpdate_own _ rfl _ _ _ 93 rfl 97 4 lawE Tryd.underlying93 _ gm L1.length D1 rfl hown5 hlm _ _ (kE ed) rfl rfl HK.out (.lit (.bool true)) [] hvt ?_; intro w6 hown6 hg6; have HW6 := Aside0.mk hown6; have HG6 := Aside0.mk hg6; have hkp := Keep.of_grown (p := fun x => x ≠ gm) hg6 (fun h => h rfl); have o0 := hkp.cell p0 HGe.out; have o1 := hkp.cell p1 HGe.out; have o2 := hkp.cell p2 HGe.out; have o3 := hkp.cell p3 HGe.out; clear hown6 hg6 hkp p0 p1 p2 p3 hown5 hlk)
                go_roundw
                case rel => exact ⟨r + 1, hr3, by go_num, by rw [HE2.out, HL2.out, HSb.out]; go_num, ⟨⟨HD5.out.keep.trans (Keep.of_grown HG6.out (fun h => h rfl)), _, by rw [HE2.out, HL2.out, List.length_append]; exact HW6.out, by rw [HE2.out, HL2.out]; exact HHE.out.put H20.out HHO.out HNm.out⟩⟩⟩
                case measure => simp [intOf]; omega
            · have hL2 : L2 = L1 := by have := HSuc.out; rw [Bool.not_true, Bool.and_false, if_neg (by decide)] at this; exact this
              have HL2 := Aside0.mk hL2
              clear hL2 hown
              go_wp2_with fail
              refine (HTr.out _ (below_alloc (Below.refl _ _) _)).mono ?_
              rintro e w5 ⟨rfl, hb5⟩
              have hb50 := below_then (below_alloc (Below.refl _ _) (.cells #[.int .i64 (a : Nat), .int .i64 (b : Nat), .int .i64 (c' : Nat), .int .i64 (d : Nat)] 97)) (by simp) hb5
              have HD5 := Aside0.mk (HDo.out.later hb50)
              have hlk := HLo.out w5 hb50
              have HQ5 := Aside0.mk (HQe.out.later hb5)
              have p0 : w5.cell? ⟨ge, 0, none⟩ = some (.int .i64 (a : Nat)) := HQ5.out.cell 0
              have p1 : w5.cell? ⟨ge, 1, none⟩ = some (.int .i64 (b : Nat)) := HQ5.out.cell 1
              have p2 : w5.cell? ⟨ge, 2, none⟩ = some (.int .i64 (c' : Nat)) := HQ5.out.cell 2
              have p3 : w5.cell? ⟨ge, 3, none⟩ = some (.int .i64 (d : Nat)) := HQ5.out.cell 3
              try rw [hge]
              clear hb5 hb50
              go_wp2_with fail
              go_roundw
              case rel => exact ⟨r + 1, hr3, by go_num, by rw [HE2.out, HL2.out], by rw [HE2.out, HL2.out]; exact HD5⟩
              case measure => simp [intOf]; omega
        · obtain rfl : r = 3 := by omega
          rw [HAll.out] at HDo ⊢
          go_wp2_with fail
          go_roundw
          case rel => exact ⟨q + 1, hqQ, by go_num, rfl, HDo⟩
          case measure => simp [intOf]; omega
    · obtain rfl : q = Q := by omega
      have dq : decide ((q : Int) < (q : Int)) = false := decide_eq_false (by omega)
      obtain ⟨D1, hown, hes⟩ := HDo.out.own
      have hsz := hes.size
      rw [HDl.out.1] at hsz
      have hln := hown.len Tryd.underlying93 3
      rw [hsz] at hln
      have hc := HDl.out.2
      rw [hc]
      clear hsz hc
      go_wp2_with fail
      go_ret3
      refine ⟨HB2.out.trans (HDo.out.keep.below (B := w.heap.size) HB2.out.size (fun x hx => by have := HGM.out; omega)), ?_⟩
      rw [if_pos HE.out, Int.toNat_natCast, HLs.out]
      rfl
set_option maxHeartbeats 6400000 in
set_option maxRecDepth 100000 in
theorem doors_bad (n : Int) (s : ByteArray) (w : World) (hs : s.size ≤ 9223372036854775807) (hE : triE n s ≠ 0) :
    Calls Tryd.prog 36 #[.int .i64 n, .string s] w (DoorsPost n s w) := by
  have HO := Aside0.mk (of_any n s w hs)
  have HP : Aside0 (∀ w', Below w.heap.size w w' → DoorsPost n s w (.returned (.tuple #[.int .i64 0, .int .i64 0, .int .i64 (triE n s)])) w') := ⟨fun w' hb => ⟨hb, by rw [if_neg hE]⟩⟩
  have HQ := Aside0.mk (fun e w2 (h : OfPost n s w e w2) => (show e = .returned (.tuple #[.pointer none, .int .i64 (triE n s)]) ∧ Below w.heap.size w w2 by
    unfold OfPost at h
    rw [if_neg hE] at h
    exact ⟨h.2, h.1⟩))
  have hz : (triE n s == 0) = false := beq_eq_false_iff_ne.2 hE
  clear hE
  generalize triE n s = z at *
  go_enter Tryd.func36, Tryd.ntmps36
  go_wp2_with fail
  refine HO.out.mono ?_
  intro e w1 h1
  obtain ⟨rfl, hb1⟩ := HQ.out _ _ h1
  have HB := Aside0.mk hb1
  clear h1 hb1
  go_wp2_with fail
  go_ret3
  exact HP.out _ HB.out
theorem doors_call (n : Int) (s : ByteArray) (w : World) (hs : s.size ≤ 9223372036854775807) : Calls Tryd.prog 36 #[.int .i64 n, .string s] w (DoorsPost n s w) := by
  by_cases hE : triE n s = 0
  · exact doors_good n s w hs hE
  · exact doors_bad n s w hs hE
end Go.Proofs.YtlmgkmmdaecpdaaDoor.Im

namespace Go.Proofs.YtlmgkmmdaecpdaaDoor.Im
open Go.RowKit Go.Proofs.YtlmgkmmdaecpdaaDoorW.PrintWords Go.Proofs.YtlmgkmmdaecpdaaDoorW.PrintLast Go.Proofs.YtlmgkmmdaecpdaaDoorW.PrintMore Go.Proofs.YtlmgkmmdaecpdaaDoor.Mi
set_option linter.unusedVariables false
theorem al_f (w : World) : Calls Tryd.prog 28 #[.int .i64 1, .string ⟨#[48, 50, 49]⟩] w fun e w' => Below w.heap.size w w' ∧ ∃ v, e = .returned (.tuple #[v, .int .i64 0]) ∧ Kd.R (Kd.slice 3 (Kd.int .i64)) 34 w' w.heap.size (fun _ => True) v [[0, 0, 0]] := by
  refine (full_call 1 ⟨#[48, 50, 49]⟩ w (by decide)).mono ?_
  rintro e w' ⟨h1, h2⟩
  rw [if_pos al_err] at h2
  obtain ⟨v, h3, h4⟩ := h2
  exact ⟨h1, v, h3, by have := h4; rw [show fulL (1 : Int).toNat (⟨#[48, 50, 49]⟩ : ByteArray).data.toList = [[0, 0, 0]] from al_full] at this; exact this⟩
theorem al_t (w : World) (mL : Int) (hm : w.cell? ⟨1, 0, none⟩ = some (.int .i64 mL)) : Calls Tryd.prog 31 #[.int .i64 1, .string ⟨#[48, 50, 49]⟩] w fun e w' => Below w.heap.size w w' ∧ e = .returned (.tuple #[.int .i64 1, .int .i64 0, .int .i64 0]) := by
  refine (turns_call 1 ⟨#[48, 50, 49]⟩ w (by decide) mL hm).mono ?_
  rintro e w' ⟨h1, h2⟩
  rw [if_pos al_err, show rigL (1 : Int).toNat (⟨#[48, 50, 49]⟩ : ByteArray).data.toList = 1 from al_rig, show lefL (1 : Int).toNat (⟨#[48, 50, 49]⟩ : ByteArray).data.toList = 0 from al_lef] at h2
  exact ⟨h1, h2⟩
theorem al_n (w : World) (hst : Steps w) : Calls Tryd.prog 20 #[.int .i64 2, .string ⟨#[46, 46, 46, 46]⟩, .string ⟨#[120]⟩] w fun e w' => Below w.heap.size w w' ∧ e = .returned (.tuple #[.int .i64 2, .int .i64 0]) := by
  refine (needs_call 2 ⟨#[46, 46, 46, 46]⟩ ⟨#[120]⟩ w hst (by decide)).mono ?_
  rintro e w' ⟨h1, h2⟩
  refine ⟨h1, ?_⟩
  rw [h2, show needsR 2 ⟨#[46, 46, 46, 46]⟩ ⟨#[120]⟩ = (2, 0) from by
    unfold needsR
    rw [if_pos (by decide), if_pos (by unfold plB; rw [ByteArray.toList_mk]; rfl), show needO (2 : Int).toNat (bsOf ⟨#[46, 46, 46, 46]⟩) (bt ⟨#[120]⟩ 0) = some 2 from al_need]
    rfl]
theorem al_w (w : World) (hst : Steps w) : Calls Tryd.prog 18 #[.int .i64 2, .string ⟨#[46, 46, 46, 46]⟩] w fun e w' => Below w.heap.size w w' ∧ e = .returned (.tuple #[.string ⟨#[120]⟩, .int .i64 0]) := by
  refine (wins_call 2 ⟨#[46, 46, 46, 46]⟩ w hst (by decide)).mono ?_
  rintro e w' ⟨h1, h2⟩
  refine ⟨h1, ?_⟩
  rw [h2, show winsR 2 ⟨#[46, 46, 46, 46]⟩ = (⟨#[120]⟩, 0) from by
    unfold winsR
    rw [if_pos (by decide), if_pos (by decide), if_pos (by decide), show gv (2 : Int).toNat (⟨#[46, 46, 46, 46]⟩ : ByteArray).data.toList = 120 from al_gv]
    rfl]
theorem al_v (w : World) (hst : Steps w) : Calls Tryd.prog 24 #[.int .i64 2, .string ⟨#[120, 111, 111, 120]⟩] w fun e w' => Below w.heap.size w w' ∧ ∃ A c, e = .returned (.tuple #[.string ⟨#[111]⟩, .slice (some A) 2 c, .int .i64 0]) ∧ Kd.R (Kd.int .i64) 3 w' w.heap.size (fun _ => True) (.slice (some A) 2 c) [2, 1] := by
  refine (winner_call 2 ⟨#[120, 111, 111, 120]⟩ w hst (by decide)).mono ?_
  rintro e w' ⟨h1, h2⟩
  rw [if_pos (by decide)] at h2
  obtain ⟨G, A, c, h3, h4, h5⟩ := h2
  rw [show winB (2 : Int).toNat (bsOf ⟨#[120, 111, 111, 120]⟩) = 111 from al_winB] at h3 h4
  rw [show brO (2 : Int).toNat (bsOf ⟨#[120, 111, 111, 120]⟩) 111 = some [2, 1] from al_bridge] at h3
  cases h3
  exact ⟨h1, A, c, h4, h5⟩
end Go.Proofs.YtlmgkmmdaecpdaaDoor.Im

namespace Go.Proofs.YtlmgkmmdaecpdaaDoor.Im
open Go.RowKit Go.Proofs.YtlmgkmmdaecpdaaDoorW.PrintWords Go.Proofs.YtlmgkmmdaecpdaaDoorW.PrintLast Go.Proofs.YtlmgkmmdaecpdaaDoorW.PrintMore Go.Proofs.YtlmgkmmdaecpdaaDoor.Mi
set_option linter.unusedVariables false
set_option maxHeartbeats 6400000 in
set_option maxRecDepth 100000 in
theorem alive_any (w : World) (hst : Steps w) (mL : Int) (hm : w.cell? ⟨1, 0, none⟩ = some (.int .i64 mL)) : Calls Tryd.prog 17 #[] w fun e w' => e = .returned (.bool true) ∧ Below w.heap.size w w' := by
  have HS := Aside0.mk hst
  have HM := Aside0.mk hm
  clear hst hm
  go_enter Tryd.func17, Tryd.ntmps17
  go_wp2_with fail
  refine (al_f _).mono ?_
  rintro e w1 ⟨hb1, v1, rfl, hR1⟩
  have HB1 := Aside0.mk hb1
  have HR1 := Aside0.mk hR1
  clear hb1 hR1
  go_wp2_with fail
  refine (al_t _ mL ((HB1.out.cell (World.block_lt_of_cell? w _ HM.out)).trans HM.out)).mono ?_
  rintro e w2 ⟨hb2, rfl⟩
  have HB2 := Aside0.mk (below_then HB1.out HB1.out.size hb2)
  have HR2 := Aside0.mk (Kd.R_below HR1.out hb2)
  clear hb2 HB1 HR1
  go_wp2_with fail
  refine (al_v _ (HS.out.later HB2.out)).mono ?_
  rintro e w3 ⟨hb3, A3, c3, rfl, hR3⟩
  have HB3 := Aside0.mk (below_then HB2.out HB2.out.size hb3)
  have HR3 := Aside0.mk (Kd.R_below HR2.out hb3)
  have HV3 := Aside0.mk hR3
  clear hb3 hR3 HB2 HR2
  go_wp2_with fail
  refine (al_n _ (HS.out.later HB3.out)).mono ?_
  rintro e w4 ⟨hb4, rfl⟩
  have HB4 := Aside0.mk (below_then HB3.out HB3.out.size hb4)
  have HR4 := Aside0.mk (Kd.R_below HR3.out hb4)
  have HV4 := Aside0.mk (Kd.R_below HV3.out hb4)
  clear hb4 HB3 HR3 HV3
  go_wp2_with fail
  refine (al_w _ (HS.out.later HB4.out)).mono ?_
  rintro e w5 ⟨hb5, rfl⟩
  have HB5 := Aside0.mk (below_then HB4.out HB4.out.size hb5)
  have HR5 := Aside0.mk (Kd.R_below HR4.out hb5)
  have HV5 := Aside0.mk (Kd.R_below HV4.out hb5)
  clear hb5 HB4 HR4 HV4
  obtain ⟨g1, c1, rfl, _, _, _⟩ := Kd.R_form HR5.out (by decide)
  obtain ⟨_, _, hC1⟩ := Kd.R_reads' HR5.out
  obtain ⟨ad, A0, c0, e0, hcell, hlc, hC0⟩ := at_L3 hC1 0 (by decide) (by decide)
  cases e0
  have hc1 : w5.cell? ⟨g1, 0, none⟩ = some (.slice A0 3 c0) := hcell
  have HC0 := Aside0.mk hC0
  have hlc' : 3 ≤ c0 := hlc
  clear hcell hC1 hC0 hlc HR5
  go_wp2_with fail
  have hba : Below w5.heap.size w5 (w5.alloc (.cells #[.int .i64 0, .int .i64 0, .int .i64 0] 3)) := below_alloc (Below.refl _ _) _
  refine (same_any [0, 0, 0] [0, 0, 0] A0 (some ⟨w5.heap.size, 0, none⟩) c0 3 _ (by decide) (Kd.C_below HC0.out hba) hlc' (C_i3 w5 0 0 0) (by decide)).mono ?_
  rintro e w6 ⟨rfl, hb6⟩
  have hbw := below_then hba hba.size hb6
  have HB6 := Aside0.mk (below_then HB5.out HB5.out.size hbw)
  have HV6 := Aside0.mk (Kd.R_below HV5.out hbw)
  clear hba hb6 hbw HB5 HV5 HC0
  obtain ⟨hn3, hl3, hC3⟩ := Kd.R_reads' HV6.out
  have HC3 := Aside0.mk hC3
  have hl3' : 2 ≤ c3 := hl3
  clear hn3 hl3 hC3
  go_wp2_with fail
  have hbb : Below w6.heap.size w6 (w6.alloc (.cells #[.int .i64 2, .int .i64 1] 3)) := below_alloc (Below.refl _ _) _
  refine (same_any [2, 1] [2, 1] (some A3) (some ⟨w6.heap.size, 0, none⟩) c3 2 _ (by decide) (Kd.C_below HC3.out hbb) hl3' (C_i2 w6 2 1) (by decide)).mono ?_
  rintro e w7 ⟨rfl, hb7⟩
  have HB7 := Aside0.mk (below_then HB6.out HB6.out.size (below_then hbb hbb.size hb7))
  clear hb7 hbb HB6 HV6
  go_wp2_with fail
  go_ret
  exact ⟨rfl, HB7.out⟩
end Go.Proofs.YtlmgkmmdaecpdaaDoor.Im

namespace Go.Proofs.YtlmgkmmdaecpdaaDoor.Im
open Go.RowKit Go.Proofs.YtlmgkmmdaecpdaaDoorW.PrintWords Go.Proofs.YtlmgkmmdaecpdaaDoorW.PrintLast Go.Proofs.YtlmgkmmdaecpdaaDoorW.PrintMore
attribute [local go_sem] max2_int min2_int max_two min_two max_three min_three max_four min_four
set_option linter.unusedVariables false
set_option linter.unusedSimpArgs false
def pomadelaw04_flipped.l0 : Nat → Int → ByteArray → List Int → Int → Option (ByteArray)
  | 0, _, _, _, _ => none
  | k + 1, x0, x1, x5, x6 => if x6 < (x1.size : Int) then (if 0 ≤ x6 then (if (bt x1 x6) = 120 then (if x0 = 0 then (none) else (if 0 ≤ (wrap64 ((wrap64 ((Int.tmod x6 x0) * x0)) + (wrap64 (Int.tdiv x6 x0)))) then (if (wrap64 ((wrap64 ((Int.tmod x6 x0) * x0)) + (wrap64 (Int.tdiv x6 x0)))) < (x5.length : Int) then (pomadelaw04_flipped.l0 k x0 x1 (x5.set ((wrap64 ((wrap64 ((Int.tmod x6 x0) * x0)) + (wrap64 (Int.tdiv x6 x0)))) : Int).toNat 111) (wrap64 (x6 + 1))) else (none)) else (none))) else (if (bt x1 x6) = 111 then (if x0 = 0 then (none) else (if 0 ≤ (wrap64 ((wrap64 ((Int.tmod x6 x0) * x0)) + (wrap64 (Int.tdiv x6 x0)))) then (if (wrap64 ((wrap64 ((Int.tmod x6 x0) * x0)) + (wrap64 (Int.tdiv x6 x0)))) < (x5.length : Int) then (pomadelaw04_flipped.l0 k x0 x1 (x5.set ((wrap64 ((wrap64 ((Int.tmod x6 x0) * x0)) + (wrap64 (Int.tdiv x6 x0)))) : Int).toNat 120) (wrap64 (x6 + 1))) else (none)) else (none))) else (if x0 = 0 then (none) else (if 0 ≤ (wrap64 ((wrap64 ((Int.tmod x6 x0) * x0)) + (wrap64 (Int.tdiv x6 x0)))) then (if (wrap64 ((wrap64 ((Int.tmod x6 x0) * x0)) + (wrap64 (Int.tdiv x6 x0)))) < (x5.length : Int) then (pomadelaw04_flipped.l0 k x0 x1 (x5.set ((wrap64 ((wrap64 ((Int.tmod x6 x0) * x0)) + (wrap64 (Int.tdiv x6 x0)))) : Int).toNat (bt x1 x6)) (wrap64 (x6 + 1))) else (none)) else (none))))) else (none)) else (some (strOfNums x5))
def pomadelaw04_flipped.f (k : Nat) (a0 : Int) (a1 : ByteArray) : Option (ByteArray) := if 0 ≤ (a1.size : Int) then (if ((a1.size : Int) : Int).toNat ≤ 281474976710656 then (pomadelaw04_flipped.l0 k a0 a1 (List.replicate ((a1.size : Int) : Int).toNat 0) 0) else (none)) else (none)
theorem pomadelaw04_flipped.mono_l : ∀ k, (∀ y0 y1 y2 y3, LeO (pomadelaw04_flipped.l0 k y0 y1 y2 y3) (pomadelaw04_flipped.l0 (k + 1) y0 y1 y2 y3))
  | 0 => fun _ _ _ _ r h => by simp [pomadelaw04_flipped.l0] at h
  | k + 1 => by
    have ih0 := pomadelaw04_flipped.mono_l k
    · intro y0 y1 y2 y3
      unfold pomadelaw04_flipped.l0
      repeat' first
      | (with_reducible exact ih0 _ _ _ _)
      | (with_reducible exact LeO.refl _)
      | (with_reducible exact LeO.none _)
      | (with_reducible refine LeO.ite ?_ ?_)
      | (with_reducible refine LeO.bind ?_ (fun _ => ?_))
      | exact ih0 _ _ _ _
      | exact LeO.none _
      | refine LeO.ite ?_ ?_
      | refine LeO.bind ?_ (fun _ => ?_)
theorem pomadelaw04_flipped.mono : ∀ a0 a1 k, LeO (pomadelaw04_flipped.f k a0 a1) (pomadelaw04_flipped.f (k + 1) a0 a1) := by
  intro a0 a1 k
  have ih0 := pomadelaw04_flipped.mono_l k
  unfold pomadelaw04_flipped.f
  repeat' first
      | (with_reducible exact ih0 _ _ _ _)
      | (with_reducible exact LeO.refl _)
      | (with_reducible exact LeO.none _)
      | (with_reducible refine LeO.ite ?_ ?_)
      | (with_reducible refine LeO.bind ?_ (fun _ => ?_))
      | exact ih0 _ _ _ _
      | exact LeO.none _
      | refine LeO.ite ?_ ?_
      | refine LeO.bind ?_ (fun _ => ?_)
def pomadelaw04_flipped.T10 : Bool × List (List Nat × List Nat) := (true, [([], []), ([], []), ([], []), ([1, 2], [1, 2]), ([], []), ([3, 4], [3, 4]), ([], []), ([], []), ([6, 7], [6, 7]), ([5, 8], [5, 8]), ([], []), ([0, 9, 0, 1, 2, 3, 4, 5, 6, 7, 8, 9, 10], [0, 9]), ([11, 10, 0, 1, 2, 3, 4, 5, 6, 7, 8, 9, 10], [10, 11])])
def pomadelaw04_flipped.B10 : List Nat := [0, 0, 0, 6, 0, 30, 0, 0, 192, 510, 0, 2047, 4095]
theorem pomadelaw04_flipped.tab10 : rtab .any (opsOf Tryd.f23 10) = pomadelaw04_flipped.T10 := by kernel_rfl
theorem pomadelaw04_flipped.bits10 : waitsOk pomadelaw04_flipped.T10.2 pomadelaw04_flipped.B10 = true := by kernel_rfl
set_option maxHeartbeats 8000000 in
set_option maxRecDepth 100000 in
theorem pomadelaw04_flipped.calls (k : Nat) (a0 : Int) (a1 : ByteArray) (r : ByteArray) (w : World) (h : pomadelaw04_flipped.f k a0 a1 = some r) :
    Calls Tryd.prog 23 #[.int .i64 a0, .string a1] w fun e w' => e = .returned (.string r) ∧ Below w.heap.size w w' := by
  have HB := Aside0.mk (Below.refl w.heap.size w)
  have H : (if 0 ≤ (a1.size : Int) then (if ((a1.size : Int) : Int).toNat ≤ 281474976710656 then (pomadelaw04_flipped.l0 k a0 a1 (List.replicate ((a1.size : Int) : Int).toNat 0) 0) else (none)) else (none)) = some r := h
  clear h
  by_cases c3 : 0 ≤ (a1.size : Int)
  · rw [if_pos c3] at H
    have c3b0 := eq_true c3
    have c3b1 : decide (0 ≤ (a1.size : Int)) = true := decide_eq_true c3
    clear c3
    by_cases c4 : ((a1.size : Int) : Int).toNat ≤ 281474976710656
    · rw [if_pos c4] at H
      have c4b0 := eq_true c4
      have c4b1 : decide (((a1.size : Int) : Int).toNat ≤ 281474976710656) = true := decide_eq_true c4
      clear c4
      obtain ⟨y234, hy234⟩ : ∃ y_ : List Int, y_ = (List.replicate ((a1.size : Int) : Int).toNat 0) := ⟨_, rfl⟩
      replace H : (pomadelaw04_flipped.l0 k a0 a1 y234 0) = some r := by first | (rw [hy234]; with_reducible exact H) | (have H2_ := (Option.bind_some _ _).symm.trans H; rw [hy234]; with_reducible exact H2_) | (have H2_ := (Option.bind_some _ _).symm.trans H; with_reducible exact H2_) | with_reducible exact H | (rw [hy234]; exact H) | exact H
      have Ny234 := Aside0.mk hy234
      clear hy234
      have H' := Aside0.mk H
      clear H
      go_enter Tryd.func23, Tryd.ntmps23
      go_wp2_with (first | ((with_reducible refine gate_dst (N := 10) rfl ?_); refine Kd.R_make (Kd.int .u8) _ 5 rfl (N := 10) rfl 60 _ _ rfl (a1.size : Int) rfl rfl Tryd.underlying60 (.int .u8 0) 1 info5 rfl (by decide) (by omega) 0 (ok := fun _ => True) (okp := fun _ => True) rfl (fun _ hk => hk) trivial (of_decide_eq_true (by first | (with_reducible assumption) | assumption)) (Nat.le_trans (Nat.mul_le_mul_right _ (of_decide_eq_true (by first | (with_reducible assumption) | assumption) : (a1.size : Int).toNat ≤ 281474976710656)) (by omega)) (Below.refl _ _) (Nat.le_refl _) ?_; intro v235 w5 ho6 hb hg_ hnew_; clear hg_ hnew_; (first | rw [← Ny234.out] at ho6 | (simp only [Int.reduceToNat] at ho6; rw [← Ny234.out] at ho6)); have n0_ := Aside0.mk (Kd.R_lower ho6 (below_size (by repeat (first | (with_reducible first | exact HB.out | apply below_alloc | apply pw_below_drewN | apply below_drew1) | exact HB.out)))); have n1_ := Aside0.mk (below_step (by repeat (first | (with_reducible first | exact HB.out | apply below_alloc | apply pw_below_drewN | apply below_drew1) | exact HB.out)) hb); clear HB; have HO236 := n0_; have HB := n1_; clear n0_ n1_; clear hb ho6))
      go_loopg [6] k (fun kq v6 w' => ∃ (x5_1 : List Int) (x6_1 : Int), v6 = .int .i64 x6_1 ∧ Aside0 (pomadelaw04_flipped.l0 kq a0 a1 x5_1 x6_1 = some r) ∧ Aside0 (kq ≤ k) ∧ Aside0 (Kd.R (Kd.int .u8) 5 w' w.heap.size (fun _ => True) v235 x5_1) ∧ Aside0 (Below w.heap.size w w'))
      case atStart => exact ⟨(y234), (0), (by first | rfl | (simp; done) | (simp [*]; done)), H', ⟨Nat.le_refl _⟩, ⟨by (with_reducible repeat (first | apply Kd.R_alloc | apply Kd.R_drewN | apply Kd.R_drew)); exact HO236.out⟩, ⟨by repeat (first | (with_reducible first | exact HB.out | apply below_alloc | apply pw_below_drewN | apply below_drew1) | exact HB.out)⟩⟩
      case round =>
        clear H'
        try clear c2
        try clear p2
        try clear c3
        try clear c3b0
        try clear c3b1
        try clear c4
        try clear c4b0
        try clear c4b1
        obtain ⟨x5_1, x6_1, rfl, HA, HK1, HO_5, HB⟩ := hrel
        cases gk with
        | zero => exact absurd HA.out (by simp [pomadelaw04_flipped.l0])
        | succ k1 =>
          have H := HA.out
          clear HA
          simp only [pomadelaw04_flipped.l0] at H
          by_cases c7 : x6_1 < (a1.size : Int)
          · rw [if_pos c7] at H
            have c7b0 : decide (x6_1 < (a1.size : Int)) = true := decide_eq_true c7
            clear c7
            by_cases c8 : 0 ≤ x6_1
            · rw [if_pos c8] at H
              have c8b0 : decide (0 ≤ x6_1) = true := decide_eq_true c8
              clear c8
              by_cases c10 : (bt a1 x6_1) = 120
              · rw [if_pos c10] at H
                have c10b0 : ((bt a1 x6_1) == 120) = true := beq_iff_eq.mpr c10
                have c10b1 : ((bt a1 x6_1) != 120) = false := bne_eq_false_iff_eq.mpr c10
                clear c10
                by_cases c11 : a0 = 0
                · rw [if_pos c11] at H
                  exact absurd H (by simp)
                · rw [if_neg c11] at H
                  have c11b0 : (a0 == 0) = false := beq_eq_false_iff_ne.mpr c11
                  have c11b1 : (a0 != 0) = true := bne_iff_ne.mpr c11
                  obtain ⟨ji12, hji12⟩ : ∃ j_ : Int, (wrap64 ((wrap64 ((Int.tmod x6_1 a0) * a0)) + (wrap64 (Int.tdiv x6_1 a0)))) = j_ := ⟨_, rfl⟩
                  replace H : (if 0 ≤ (ji12) then (if (ji12) < (x5_1.length : Int) then (pomadelaw04_flipped.l0 k1 a0 a1 (x5_1.set ((ji12) : Int).toNat 111) (wrap64 (x6_1 + 1))) else (none)) else (none)) = some r := by first | (rw [hji12] at H; exact H) | (simp only [hji12] at H ⊢; exact H)
                  have hji12w : (IntKind.i64.wrap ((wrap64 ((Int.tmod x6_1 a0) * a0)) + (wrap64 (Int.tdiv x6_1 a0)))) = ji12 := (i64_w _).trans hji12
                  by_cases c13 : 0 ≤ (ji12)
                  · rw [if_pos c13] at H
                    have c13b0 : decide (0 ≤ (ji12)) = true := decide_eq_true c13
                    clear c13
                    by_cases c14 : (ji12) < (x5_1.length : Int)
                    · rw [if_pos c14] at H
                      have c14b0 : decide ((ji12) < (x5_1.length : Int)) = true := decide_eq_true c14
                      clear c14
                      obtain ⟨y237, hy237⟩ : ∃ y_ : List Int, y_ = (x5_1.set ((ji12) : Int).toNat 111) := ⟨_, rfl⟩
                      replace H : (pomadelaw04_flipped.l0 k1 a0 a1 y237 (wrap64 (x6_1 + 1))) = some r := by first | (rw [hy237]; with_reducible exact H) | (have H2_ := (Option.bind_some _ _).symm.trans H; rw [hy237]; with_reducible exact H2_) | (have H2_ := (Option.bind_some _ _).symm.trans H; with_reducible exact H2_) | with_reducible exact H | (rw [hy237]; exact H) | exact H
                      have Ny237 := Aside0.mk hy237
                      clear hy237
                      have H' := Aside0.mk H
                      clear H
                      have p9 : 0 ≤ (x6_1 : Int) := of_decide_eq_true (by first | (with_reducible assumption) | assumption)
                      have q9 : x6_1 < (a1.size : Int) := of_decide_eq_true (by first | (with_reducible assumption) | assumption)
                      have hx9 := bt_at a1 x6_1
                      replace p9 := eq_true p9
                      replace q9 := eq_true q9
                      try go_wp2
                      have n0_ := Aside0.mk (Kd.R_drew HO_5.out)
                      have n1_ := Aside0.mk (below_drew1 HB.out)
                      clear HO_5
                      clear HB
                      have HO_5 := n0_
                      have HB := n1_
                      clear n0_ n1_
                      have p15 : 0 ≤ ((ji12) : Int) := of_decide_eq_true (by first | (with_reducible assumption) | assumption)
                      have q15 : ((ji12) : Int) < ((x5_1.length : Int) : Int) := of_decide_eq_true (by first | (with_reducible assumption) | assumption)
                      obtain ⟨go15, co15, eo15, gb15, gl15, cl15, HG15⟩ := Kd.R_form HO_5.out (by omega)
                      (first | cases eo15 | (injection eo15 with ea_ en_ ec_; (first | subst ea_ | (injection ea_ with ea_; subst ea_)); subst ec_; clear en_))
                      have GB15 := Aside0.mk gb15
                      have GG15 := Aside0.mk HG15
                      clear gb15 gl15 HG15
                      obtain ⟨hx15_0, hf15_0⟩ := Kd.R_celln 0 HO_5.out ((ji12) : Int) p15 q15
                      replace p15 := eq_true p15
                      replace q15 := eq_true q15
                      have HP17 := Kd.R_putn HO_5.out ((ji12) : Int) 111
                      rw [← Ny237.out] at HP17
                      have HQ17 := Aside0.mk HP17
                      clear HP17
                      refine start_ (n := 13) (S := fun w' => True) (ds := [12]) #[false, false, false, false, false, false, false, false, false, false, false, false, false] (by kernel_rfl) rfl rfl trivial (fun hHeld => ?_); refine with_tabW pomadelaw04_flipped.tab10 pomadelaw04_flipped.bits10 (fun HT_ HW_ => ?_)
                      generalize wr.drew = w16 at HO_5 HB GG15 HQ17 hf15_0 hx15_0 hHeld ⊢
                      refine pure_ (i := 0) (N := some 24) (v := ?_) (a' := ?_) #[true, false, false, false, false, false, false, false, false, false, false, false, false] rfl rfl (any_of HT_.out (by kernel_rfl)) (fun _ _ _ h => h) (Or.inl ⟨by rfl, ?_⟩) ?_ ?_
                      rotate_left
                      · intro w'
                        go_simp
                        with_reducible rfl
                      rotate_left
                      · simp only [Act.put, List.setIfInBounds_toArray, List.set_cons_zero, List.set_cons_succ, i64_w, i32_w]
                        rfl
                      refine pure_ (i := 1) (N := some 25) (v := ?_) (a' := ?_) #[true, true, false, false, false, false, false, false, false, false, false, false, false] rfl rfl (any_of HT_.out (by kernel_rfl)) (fun _ _ _ h => h) (Or.inl ⟨by rfl, ?_⟩) ?_ ?_
                      rotate_left
                      · intro w'
                        go_simp
                        with_reducible rfl
                      rotate_left
                      · simp only [Act.put, List.setIfInBounds_toArray, List.set_cons_zero, List.set_cons_succ, i64_w, i32_w]
                        rfl
                      refine pure_ (i := 2) (N := some 26) (v := ?_) (a' := ?_) #[true, true, true, false, false, false, false, false, false, false, false, false, false] rfl rfl (any_of HT_.out (by kernel_rfl)) (fun _ _ _ h => h) (Or.inl ⟨by rfl, ?_⟩) ?_ ?_
                      rotate_left
                      · intro w'
                        go_simp
                        with_reducible rfl
                      rotate_left
                      · simp only [Act.put, List.setIfInBounds_toArray, List.set_cons_zero, List.set_cons_succ, i64_w, i32_w]
                        rfl
                      refine pure_ (i := 3) (N := some 27) (v := ?_) (a' := ?_) #[true, true, true, true, false, false, false, false, false, false, false, false, false] rfl rfl (any_of HT_.out (by kernel_rfl)) (fun _ _ _ h => h) (Or.inl ⟨by rfl, ?_⟩) ?_ ?_
                      rotate_left
                      · intro w'
                        go_simp
                        with_reducible rfl
                      rotate_left
                      · simp only [Act.put, List.setIfInBounds_toArray, List.set_cons_zero, List.set_cons_succ, i64_w, i32_w]
                        rfl
                      refine pure_ (i := 4) (N := some 28) (v := ?_) (a' := ?_) #[true, true, true, true, true, false, false, false, false, false, false, false, false] rfl rfl (any_of HT_.out (by kernel_rfl)) (fun _ _ _ h => h) (Or.inl ⟨by rfl, ?_⟩) ?_ ?_
                      rotate_left
                      · intro w'
                        go_simp
                        with_reducible rfl
                      rotate_left
                      · simp only [Act.put, List.setIfInBounds_toArray, List.set_cons_zero, List.set_cons_succ, i64_w, i32_w]
                        rfl
                      refine pure_ (i := 5) (N := some 29) (v := ?_) (a' := ?_) #[true, true, true, true, true, true, false, false, false, false, false, false, false] rfl rfl (any_of HT_.out (by kernel_rfl)) (fun _ _ _ h => h) (Or.inl ⟨by rfl, ?_⟩) ?_ ?_
                      rotate_left
                      · intro w'
                        go_simp
                        with_reducible rfl
                      rotate_left
                      · simp only [Act.put, List.setIfInBounds_toArray, List.set_cons_zero, List.set_cons_succ, i64_w, i32_w]
                        rfl
                      refine pure_ (i := 6) (N := some 30) (v := ?_) (a' := ?_) #[true, true, true, true, true, true, true, false, false, false, false, false, false] rfl rfl (any_of HT_.out (by kernel_rfl)) (fun _ _ _ h => h) (Or.inl ⟨by rfl, ?_⟩) ?_ ?_
                      rotate_left
                      · intro w'
                        go_simp
                        with_reducible rfl
                      rotate_left
                      · simp only [Act.put, List.setIfInBounds_toArray, List.set_cons_zero, List.set_cons_succ, i64_w, i32_w]
                        rfl
                      refine pure_ (i := 7) (N := some 31) (v := ?_) (a' := ?_) #[true, true, true, true, true, true, true, true, false, false, false, false, false] rfl rfl (any_of HT_.out (by kernel_rfl)) (fun _ _ _ h => h) (Or.inl ⟨by rfl, ?_⟩) ?_ ?_
                      rotate_left
                      · intro w'
                        go_simp
                        with_reducible rfl
                      rotate_left
                      · simp only [Act.put, List.setIfInBounds_toArray, List.set_cons_zero, List.set_cons_succ, i64_w, i32_w]
                        rfl
                      refine pure_ (i := 8) (N := some 32) (v := ?_) (a' := ?_) #[true, true, true, true, true, true, true, true, true, false, false, false, false] rfl rfl (any_of HT_.out (by kernel_rfl)) (fun _ _ _ h => h) (Or.inl ⟨by rfl, ?_⟩) ?_ ?_
                      rotate_left
                      · intro w'
                        go_simp
                        with_reducible rfl
                      rotate_left
                      · simp only [Act.put, List.setIfInBounds_toArray, List.set_cons_zero, List.set_cons_succ, i64_w, i32_w]
                        rfl
                      refine pure_ (i := 9) (N := some 33) (v := ?_) (a' := ?_) #[true, true, true, true, true, true, true, true, true, true, false, false, false] rfl rfl (any_of HT_.out (by kernel_rfl)) (fun _ _ _ h => h) (Or.inl ⟨by rfl, ?_⟩) ?_ ?_
                      rotate_left
                      · intro w'
                        go_simp
                        with_reducible rfl
                      rotate_left
                      · simp only [Act.put, List.setIfInBounds_toArray, List.set_cons_zero, List.set_cons_succ, i64_w, i32_w]
                        rfl
                      refine pure_ (i := 10) (N := some 34) (v := ?_) (a' := ?_) #[true, true, true, true, true, true, true, true, true, true, true, false, false] rfl rfl (any_of HT_.out (by kernel_rfl)) (fun _ _ _ h => h) (Or.inl ⟨by rfl, ?_⟩) ?_ ?_
                      rotate_left
                      · intro w'
                        go_simp
                        with_reducible rfl
                      rotate_left
                      · simp only [Act.put, List.setIfInBounds_toArray, List.set_cons_zero, List.set_cons_succ, i64_w, i32_w]
                        rfl
                      refine pure_ (i := 11) (N := some 35) (v := ?_) (a' := ?_) #[true, true, true, true, true, true, true, true, true, true, true, true, false] rfl rfl (any_of HT_.out (by kernel_rfl)) (fun _ _ _ h => h) (Or.inl ⟨by rfl, ?_⟩) ?_ ?_
                      rotate_left
                      · intro w'
                        go_simp
                        with_reducible rfl
                      rotate_left
                      · simp only [Act.put, List.setIfInBounds_toArray, List.set_cons_zero, List.set_cons_succ, i64_w, i32_w]
                        rfl
                      refine last_ (i := 12) (N := none) #[true, true, true, true, true, true, true, true, true, true, true, true, true] rfl rfl (one_of HT_.out (by kernel_rfl)) (by decide) (fun K hK => ?_)
                      refine skip_ (w1 := ?_) (by rfl) rfl ?_ ?_
                      rotate_left
                      · go_simp
                        rfl
                      refine hK.out _ _ ?_
                      clear hK K
                      refine done_ (done_of HT_.out (by kernel_rfl)) ?_
                      try go_wp2
                      go_roundg k1
                      case measure => have := HK1.out; omega
                      case rel => exact ⟨(y237), (wrap64 (x6_1 + 1)), (by first | rfl | (simp; done) | (simp [*]; done)), H', ⟨by have := HK1.out; omega⟩, ⟨by (with_reducible repeat (first | apply Kd.R_alloc | apply Kd.R_drewN | apply Kd.R_drew)); exact HQ17.out⟩, ⟨by repeat (first | (with_reducible first | exact HB.out | apply below_alloc | apply pw_below_drewN | apply below_drew1 | refine below_set ?_ GB15.out) | exact HB.out)⟩⟩
                    · rw [if_neg c14] at H
                      exact absurd H (by simp)
                  · rw [if_neg c13] at H
                    exact absurd H (by simp)
              · rw [if_neg c10] at H
                have c10b0 : ((bt a1 x6_1) == 120) = false := beq_eq_false_iff_ne.mpr c10
                have c10b1 : ((bt a1 x6_1) != 120) = true := bne_iff_ne.mpr c10
                by_cases c18 : (bt a1 x6_1) = 111
                · rw [if_pos c18] at H
                  have c18b0 : ((bt a1 x6_1) == 111) = true := beq_iff_eq.mpr c18
                  have c18b1 : ((bt a1 x6_1) != 111) = false := bne_eq_false_iff_eq.mpr c18
                  clear c18
                  by_cases c19 : a0 = 0
                  · rw [if_pos c19] at H
                    exact absurd H (by simp)
                  · rw [if_neg c19] at H
                    have c19b0 : (a0 == 0) = false := beq_eq_false_iff_ne.mpr c19
                    have c19b1 : (a0 != 0) = true := bne_iff_ne.mpr c19
                    obtain ⟨ji20, hji20⟩ : ∃ j_ : Int, (wrap64 ((wrap64 ((Int.tmod x6_1 a0) * a0)) + (wrap64 (Int.tdiv x6_1 a0)))) = j_ := ⟨_, rfl⟩
                    replace H : (if 0 ≤ (ji20) then (if (ji20) < (x5_1.length : Int) then (pomadelaw04_flipped.l0 k1 a0 a1 (x5_1.set ((ji20) : Int).toNat 120) (wrap64 (x6_1 + 1))) else (none)) else (none)) = some r := by first | (rw [hji20] at H; exact H) | (simp only [hji20] at H ⊢; exact H)
                    have hji20w : (IntKind.i64.wrap ((wrap64 ((Int.tmod x6_1 a0) * a0)) + (wrap64 (Int.tdiv x6_1 a0)))) = ji20 := (i64_w _).trans hji20
                    by_cases c21 : 0 ≤ (ji20)
                    · rw [if_pos c21] at H
                      have c21b0 : decide (0 ≤ (ji20)) = true := decide_eq_true c21
                      clear c21
                      by_cases c22 : (ji20) < (x5_1.length : Int)
                      · rw [if_pos c22] at H
                        have c22b0 : decide ((ji20) < (x5_1.length : Int)) = true := decide_eq_true c22
                        clear c22
                        obtain ⟨y238, hy238⟩ : ∃ y_ : List Int, y_ = (x5_1.set ((ji20) : Int).toNat 120) := ⟨_, rfl⟩
                        replace H : (pomadelaw04_flipped.l0 k1 a0 a1 y238 (wrap64 (x6_1 + 1))) = some r := by first | (rw [hy238]; with_reducible exact H) | (have H2_ := (Option.bind_some _ _).symm.trans H; rw [hy238]; with_reducible exact H2_) | (have H2_ := (Option.bind_some _ _).symm.trans H; with_reducible exact H2_) | with_reducible exact H | (rw [hy238]; exact H) | exact H
                        have Ny238 := Aside0.mk hy238
                        clear hy238
                        have H' := Aside0.mk H
                        clear H
                        have p9 : 0 ≤ (x6_1 : Int) := of_decide_eq_true (by first | (with_reducible assumption) | assumption)
                        have q9 : x6_1 < (a1.size : Int) := of_decide_eq_true (by first | (with_reducible assumption) | assumption)
                        have hx9 := bt_at a1 x6_1
                        replace p9 := eq_true p9
                        replace q9 := eq_true q9
                        try go_wp2
                        have n0_ := Aside0.mk (Kd.R_drew HO_5.out)
                        have n1_ := Aside0.mk (below_drew1 HB.out)
                        clear HO_5
                        clear HB
                        have HO_5 := n0_
                        have HB := n1_
                        clear n0_ n1_
                        have p23 : 0 ≤ ((ji20) : Int) := of_decide_eq_true (by first | (with_reducible assumption) | assumption)
                        have q23 : ((ji20) : Int) < ((x5_1.length : Int) : Int) := of_decide_eq_true (by first | (with_reducible assumption) | assumption)
                        obtain ⟨go23, co23, eo23, gb23, gl23, cl23, HG23⟩ := Kd.R_form HO_5.out (by omega)
                        (first | cases eo23 | (injection eo23 with ea_ en_ ec_; (first | subst ea_ | (injection ea_ with ea_; subst ea_)); subst ec_; clear en_))
                        have GB23 := Aside0.mk gb23
                        have GG23 := Aside0.mk HG23
                        clear gb23 gl23 HG23
                        obtain ⟨hx23_0, hf23_0⟩ := Kd.R_celln 0 HO_5.out ((ji20) : Int) p23 q23
                        replace p23 := eq_true p23
                        replace q23 := eq_true q23
                        have HP25 := Kd.R_putn HO_5.out ((ji20) : Int) 120
                        rw [← Ny238.out] at HP25
                        have HQ25 := Aside0.mk HP25
                        clear HP25
                        refine start_ (n := 13) (S := fun w' => True) (ds := [12]) #[false, false, false, false, false, false, false, false, false, false, false, false, false] (by kernel_rfl) rfl rfl trivial (fun hHeld => ?_); refine with_tabW pomadelaw04_flipped.tab10 pomadelaw04_flipped.bits10 (fun HT_ HW_ => ?_)
                        generalize wr.drew = w24 at HO_5 HB GG23 HQ25 hf23_0 hx23_0 hHeld ⊢
                        refine pure_ (i := 0) (N := some 24) (v := ?_) (a' := ?_) #[true, false, false, false, false, false, false, false, false, false, false, false, false] rfl rfl (any_of HT_.out (by kernel_rfl)) (fun _ _ _ h => h) (Or.inl ⟨by rfl, ?_⟩) ?_ ?_
                        rotate_left
                        · intro w'
                          go_simp
                          with_reducible rfl
                        rotate_left
                        · simp only [Act.put, List.setIfInBounds_toArray, List.set_cons_zero, List.set_cons_succ, i64_w, i32_w]
                          rfl
                        refine pure_ (i := 1) (N := some 25) (v := ?_) (a' := ?_) #[true, true, false, false, false, false, false, false, false, false, false, false, false] rfl rfl (any_of HT_.out (by kernel_rfl)) (fun _ _ _ h => h) (Or.inl ⟨by rfl, ?_⟩) ?_ ?_
                        rotate_left
                        · intro w'
                          go_simp
                          with_reducible rfl
                        rotate_left
                        · simp only [Act.put, List.setIfInBounds_toArray, List.set_cons_zero, List.set_cons_succ, i64_w, i32_w]
                          rfl
                        refine pure_ (i := 2) (N := some 26) (v := ?_) (a' := ?_) #[true, true, true, false, false, false, false, false, false, false, false, false, false] rfl rfl (any_of HT_.out (by kernel_rfl)) (fun _ _ _ h => h) (Or.inl ⟨by rfl, ?_⟩) ?_ ?_
                        rotate_left
                        · intro w'
                          go_simp
                          with_reducible rfl
                        rotate_left
                        · simp only [Act.put, List.setIfInBounds_toArray, List.set_cons_zero, List.set_cons_succ, i64_w, i32_w]
                          rfl
                        refine pure_ (i := 3) (N := some 27) (v := ?_) (a' := ?_) #[true, true, true, true, false, false, false, false, false, false, false, false, false] rfl rfl (any_of HT_.out (by kernel_rfl)) (fun _ _ _ h => h) (Or.inl ⟨by rfl, ?_⟩) ?_ ?_
                        rotate_left
                        · intro w'
                          go_simp
                          with_reducible rfl
                        rotate_left
                        · simp only [Act.put, List.setIfInBounds_toArray, List.set_cons_zero, List.set_cons_succ, i64_w, i32_w]
                          rfl
                        refine pure_ (i := 4) (N := some 28) (v := ?_) (a' := ?_) #[true, true, true, true, true, false, false, false, false, false, false, false, false] rfl rfl (any_of HT_.out (by kernel_rfl)) (fun _ _ _ h => h) (Or.inl ⟨by rfl, ?_⟩) ?_ ?_
                        rotate_left
                        · intro w'
                          go_simp
                          with_reducible rfl
                        rotate_left
                        · simp only [Act.put, List.setIfInBounds_toArray, List.set_cons_zero, List.set_cons_succ, i64_w, i32_w]
                          rfl
                        refine pure_ (i := 5) (N := some 29) (v := ?_) (a' := ?_) #[true, true, true, true, true, true, false, false, false, false, false, false, false] rfl rfl (any_of HT_.out (by kernel_rfl)) (fun _ _ _ h => h) (Or.inl ⟨by rfl, ?_⟩) ?_ ?_
                        rotate_left
                        · intro w'
                          go_simp
                          with_reducible rfl
                        rotate_left
                        · simp only [Act.put, List.setIfInBounds_toArray, List.set_cons_zero, List.set_cons_succ, i64_w, i32_w]
                          rfl
                        refine pure_ (i := 6) (N := some 30) (v := ?_) (a' := ?_) #[true, true, true, true, true, true, true, false, false, false, false, false, false] rfl rfl (any_of HT_.out (by kernel_rfl)) (fun _ _ _ h => h) (Or.inl ⟨by rfl, ?_⟩) ?_ ?_
                        rotate_left
                        · intro w'
                          go_simp
                          with_reducible rfl
                        rotate_left
                        · simp only [Act.put, List.setIfInBounds_toArray, List.set_cons_zero, List.set_cons_succ, i64_w, i32_w]
                          rfl
                        refine pure_ (i := 7) (N := some 31) (v := ?_) (a' := ?_) #[true, true, true, true, true, true, true, true, false, false, false, false, false] rfl rfl (any_of HT_.out (by kernel_rfl)) (fun _ _ _ h => h) (Or.inl ⟨by rfl, ?_⟩) ?_ ?_
                        rotate_left
                        · intro w'
                          go_simp
                          with_reducible rfl
                        rotate_left
                        · simp only [Act.put, List.setIfInBounds_toArray, List.set_cons_zero, List.set_cons_succ, i64_w, i32_w]
                          rfl
                        refine pure_ (i := 8) (N := some 32) (v := ?_) (a' := ?_) #[true, true, true, true, true, true, true, true, true, false, false, false, false] rfl rfl (any_of HT_.out (by kernel_rfl)) (fun _ _ _ h => h) (Or.inl ⟨by rfl, ?_⟩) ?_ ?_
                        rotate_left
                        · intro w'
                          go_simp
                          with_reducible rfl
                        rotate_left
                        · simp only [Act.put, List.setIfInBounds_toArray, List.set_cons_zero, List.set_cons_succ, i64_w, i32_w]
                          rfl
                        refine pure_ (i := 9) (N := some 33) (v := ?_) (a' := ?_) #[true, true, true, true, true, true, true, true, true, true, false, false, false] rfl rfl (any_of HT_.out (by kernel_rfl)) (fun _ _ _ h => h) (Or.inl ⟨by rfl, ?_⟩) ?_ ?_
                        rotate_left
                        · intro w'
                          go_simp
                          with_reducible rfl
                        rotate_left
                        · simp only [Act.put, List.setIfInBounds_toArray, List.set_cons_zero, List.set_cons_succ, i64_w, i32_w]
                          rfl
                        refine pure_ (i := 10) (N := some 34) (v := ?_) (a' := ?_) #[true, true, true, true, true, true, true, true, true, true, true, false, false] rfl rfl (any_of HT_.out (by kernel_rfl)) (fun _ _ _ h => h) (Or.inl ⟨by rfl, ?_⟩) ?_ ?_
                        rotate_left
                        · intro w'
                          go_simp
                          with_reducible rfl
                        rotate_left
                        · simp only [Act.put, List.setIfInBounds_toArray, List.set_cons_zero, List.set_cons_succ, i64_w, i32_w]
                          rfl
                        refine pure_ (i := 11) (N := some 35) (v := ?_) (a' := ?_) #[true, true, true, true, true, true, true, true, true, true, true, true, false] rfl rfl (any_of HT_.out (by kernel_rfl)) (fun _ _ _ h => h) (Or.inl ⟨by rfl, ?_⟩) ?_ ?_
                        rotate_left
                        · intro w'
                          go_simp
                          with_reducible rfl
                        rotate_left
                        · simp only [Act.put, List.setIfInBounds_toArray, List.set_cons_zero, List.set_cons_succ, i64_w, i32_w]
                          rfl
                        refine last_ (i := 12) (N := none) #[true, true, true, true, true, true, true, true, true, true, true, true, true] rfl rfl (one_of HT_.out (by kernel_rfl)) (by decide) (fun K hK => ?_)
                        refine skip_ (w1 := ?_) (by rfl) rfl ?_ ?_
                        rotate_left
                        · go_simp
                          rfl
                        refine hK.out _ _ ?_
                        clear hK K
                        refine done_ (done_of HT_.out (by kernel_rfl)) ?_
                        try go_wp2
                        go_roundg k1
                        case measure => have := HK1.out; omega
                        case rel => exact ⟨(y238), (wrap64 (x6_1 + 1)), (by first | rfl | (simp; done) | (simp [*]; done)), H', ⟨by have := HK1.out; omega⟩, ⟨by (with_reducible repeat (first | apply Kd.R_alloc | apply Kd.R_drewN | apply Kd.R_drew)); exact HQ25.out⟩, ⟨by repeat (first | (with_reducible first | exact HB.out | apply below_alloc | apply pw_below_drewN | apply below_drew1 | refine below_set ?_ GB23.out) | exact HB.out)⟩⟩
                      · rw [if_neg c22] at H
                        exact absurd H (by simp)
                    · rw [if_neg c21] at H
                      exact absurd H (by simp)
                · rw [if_neg c18] at H
                  have c18b0 : ((bt a1 x6_1) == 111) = false := beq_eq_false_iff_ne.mpr c18
                  have c18b1 : ((bt a1 x6_1) != 111) = true := bne_iff_ne.mpr c18
                  by_cases c26 : a0 = 0
                  · rw [if_pos c26] at H
                    exact absurd H (by simp)
                  · rw [if_neg c26] at H
                    have c26b0 : (a0 == 0) = false := beq_eq_false_iff_ne.mpr c26
                    have c26b1 : (a0 != 0) = true := bne_iff_ne.mpr c26
                    obtain ⟨ji27, hji27⟩ : ∃ j_ : Int, (wrap64 ((wrap64 ((Int.tmod x6_1 a0) * a0)) + (wrap64 (Int.tdiv x6_1 a0)))) = j_ := ⟨_, rfl⟩
                    replace H : (if 0 ≤ (ji27) then (if (ji27) < (x5_1.length : Int) then (pomadelaw04_flipped.l0 k1 a0 a1 (x5_1.set ((ji27) : Int).toNat (bt a1 x6_1)) (wrap64 (x6_1 + 1))) else (none)) else (none)) = some r := by first | (rw [hji27] at H; exact H) | (simp only [hji27] at H ⊢; exact H)
                    have hji27w : (IntKind.i64.wrap ((wrap64 ((Int.tmod x6_1 a0) * a0)) + (wrap64 (Int.tdiv x6_1 a0)))) = ji27 := (i64_w _).trans hji27
                    by_cases c28 : 0 ≤ (ji27)
                    · rw [if_pos c28] at H
                      have c28b0 : decide (0 ≤ (ji27)) = true := decide_eq_true c28
                      clear c28
                      by_cases c29 : (ji27) < (x5_1.length : Int)
                      · rw [if_pos c29] at H
                        have c29b0 : decide ((ji27) < (x5_1.length : Int)) = true := decide_eq_true c29
                        clear c29
                        obtain ⟨y239, hy239⟩ : ∃ y_ : List Int, y_ = (x5_1.set ((ji27) : Int).toNat (bt a1 x6_1)) := ⟨_, rfl⟩
                        replace H : (pomadelaw04_flipped.l0 k1 a0 a1 y239 (wrap64 (x6_1 + 1))) = some r := by first | (rw [hy239]; with_reducible exact H) | (have H2_ := (Option.bind_some _ _).symm.trans H; rw [hy239]; with_reducible exact H2_) | (have H2_ := (Option.bind_some _ _).symm.trans H; with_reducible exact H2_) | with_reducible exact H | (rw [hy239]; exact H) | exact H
                        have Ny239 := Aside0.mk hy239
                        clear hy239
                        have H' := Aside0.mk H
                        clear H
                        have p9 : 0 ≤ (x6_1 : Int) := of_decide_eq_true (by first | (with_reducible assumption) | assumption)
                        have q9 : x6_1 < (a1.size : Int) := of_decide_eq_true (by first | (with_reducible assumption) | assumption)
                        have hx9 := bt_at a1 x6_1
                        replace p9 := eq_true p9
                        replace q9 := eq_true q9
                        try go_wp2
                        have n0_ := Aside0.mk (Kd.R_drew HO_5.out)
                        have n1_ := Aside0.mk (below_drew1 HB.out)
                        clear HO_5
                        clear HB
                        have HO_5 := n0_
                        have HB := n1_
                        clear n0_ n1_
                        have p30 : 0 ≤ ((ji27) : Int) := of_decide_eq_true (by first | (with_reducible assumption) | assumption)
                        have q30 : ((ji27) : Int) < ((x5_1.length : Int) : Int) := of_decide_eq_true (by first | (with_reducible assumption) | assumption)
                        obtain ⟨go30, co30, eo30, gb30, gl30, cl30, HG30⟩ := Kd.R_form HO_5.out (by omega)
                        (first | cases eo30 | (injection eo30 with ea_ en_ ec_; (first | subst ea_ | (injection ea_ with ea_; subst ea_)); subst ec_; clear en_))
                        have GB30 := Aside0.mk gb30
                        have GG30 := Aside0.mk HG30
                        clear gb30 gl30 HG30
                        obtain ⟨hx30_0, hf30_0⟩ := Kd.R_celln 0 HO_5.out ((ji27) : Int) p30 q30
                        replace p30 := eq_true p30
                        replace q30 := eq_true q30
                        have HP32 := Kd.R_putn HO_5.out ((ji27) : Int) (bt a1 x6_1)
                        rw [← Ny239.out] at HP32
                        have HQ32 := Aside0.mk HP32
                        clear HP32
                        refine start_ (n := 13) (S := fun w' => True) (ds := [12]) #[false, false, false, false, false, false, false, false, false, false, false, false, false] (by kernel_rfl) rfl rfl trivial (fun hHeld => ?_); refine with_tabW pomadelaw04_flipped.tab10 pomadelaw04_flipped.bits10 (fun HT_ HW_ => ?_)
                        generalize wr.drew = w31 at HO_5 HB GG30 HQ32 hf30_0 hx30_0 hHeld ⊢
                        refine pure_ (i := 0) (N := some 24) (v := ?_) (a' := ?_) #[true, false, false, false, false, false, false, false, false, false, false, false, false] rfl rfl (any_of HT_.out (by kernel_rfl)) (fun _ _ _ h => h) (Or.inl ⟨by rfl, ?_⟩) ?_ ?_
                        rotate_left
                        · intro w'
                          go_simp
                          with_reducible rfl
                        rotate_left
                        · simp only [Act.put, List.setIfInBounds_toArray, List.set_cons_zero, List.set_cons_succ, i64_w, i32_w]
                          rfl
                        refine pure_ (i := 1) (N := some 25) (v := ?_) (a' := ?_) #[true, true, false, false, false, false, false, false, false, false, false, false, false] rfl rfl (any_of HT_.out (by kernel_rfl)) (fun _ _ _ h => h) (Or.inl ⟨by rfl, ?_⟩) ?_ ?_
                        rotate_left
                        · intro w'
                          go_simp
                          with_reducible rfl
                        rotate_left
                        · simp only [Act.put, List.setIfInBounds_toArray, List.set_cons_zero, List.set_cons_succ, i64_w, i32_w]
                          rfl
                        refine pure_ (i := 2) (N := some 26) (v := ?_) (a' := ?_) #[true, true, true, false, false, false, false, false, false, false, false, false, false] rfl rfl (any_of HT_.out (by kernel_rfl)) (fun _ _ _ h => h) (Or.inl ⟨by rfl, ?_⟩) ?_ ?_
                        rotate_left
                        · intro w'
                          go_simp
                          with_reducible rfl
                        rotate_left
                        · simp only [Act.put, List.setIfInBounds_toArray, List.set_cons_zero, List.set_cons_succ, i64_w, i32_w]
                          rfl
                        refine pure_ (i := 3) (N := some 27) (v := ?_) (a' := ?_) #[true, true, true, true, false, false, false, false, false, false, false, false, false] rfl rfl (any_of HT_.out (by kernel_rfl)) (fun _ _ _ h => h) (Or.inl ⟨by rfl, ?_⟩) ?_ ?_
                        rotate_left
                        · intro w'
                          go_simp
                          with_reducible rfl
                        rotate_left
                        · simp only [Act.put, List.setIfInBounds_toArray, List.set_cons_zero, List.set_cons_succ, i64_w, i32_w]
                          rfl
                        refine pure_ (i := 4) (N := some 28) (v := ?_) (a' := ?_) #[true, true, true, true, true, false, false, false, false, false, false, false, false] rfl rfl (any_of HT_.out (by kernel_rfl)) (fun _ _ _ h => h) (Or.inl ⟨by rfl, ?_⟩) ?_ ?_
                        rotate_left
                        · intro w'
                          go_simp
                          with_reducible rfl
                        rotate_left
                        · simp only [Act.put, List.setIfInBounds_toArray, List.set_cons_zero, List.set_cons_succ, i64_w, i32_w]
                          rfl
                        refine pure_ (i := 5) (N := some 29) (v := ?_) (a' := ?_) #[true, true, true, true, true, true, false, false, false, false, false, false, false] rfl rfl (any_of HT_.out (by kernel_rfl)) (fun _ _ _ h => h) (Or.inl ⟨by rfl, ?_⟩) ?_ ?_
                        rotate_left
                        · intro w'
                          go_simp
                          with_reducible rfl
                        rotate_left
                        · simp only [Act.put, List.setIfInBounds_toArray, List.set_cons_zero, List.set_cons_succ, i64_w, i32_w]
                          rfl
                        refine pure_ (i := 6) (N := some 30) (v := ?_) (a' := ?_) #[true, true, true, true, true, true, true, false, false, false, false, false, false] rfl rfl (any_of HT_.out (by kernel_rfl)) (fun _ _ _ h => h) (Or.inl ⟨by rfl, ?_⟩) ?_ ?_
                        rotate_left
                        · intro w'
                          go_simp
                          with_reducible rfl
                        rotate_left
                        · simp only [Act.put, List.setIfInBounds_toArray, List.set_cons_zero, List.set_cons_succ, i64_w, i32_w]
                          rfl
                        refine pure_ (i := 7) (N := some 31) (v := ?_) (a' := ?_) #[true, true, true, true, true, true, true, true, false, false, false, false, false] rfl rfl (any_of HT_.out (by kernel_rfl)) (fun _ _ _ h => h) (Or.inl ⟨by rfl, ?_⟩) ?_ ?_
                        rotate_left
                        · intro w'
                          go_simp
                          with_reducible rfl
                        rotate_left
                        · simp only [Act.put, List.setIfInBounds_toArray, List.set_cons_zero, List.set_cons_succ, i64_w, i32_w]
                          rfl
                        refine pure_ (i := 8) (N := some 32) (v := ?_) (a' := ?_) #[true, true, true, true, true, true, true, true, true, false, false, false, false] rfl rfl (any_of HT_.out (by kernel_rfl)) (fun _ _ _ h => h) (Or.inl ⟨by rfl, ?_⟩) ?_ ?_
                        rotate_left
                        · intro w'
                          go_simp
                          with_reducible rfl
                        rotate_left
                        · simp only [Act.put, List.setIfInBounds_toArray, List.set_cons_zero, List.set_cons_succ, i64_w, i32_w]
                          rfl
                        refine pure_ (i := 9) (N := some 33) (v := ?_) (a' := ?_) #[true, true, true, true, true, true, true, true, true, true, false, false, false] rfl rfl (any_of HT_.out (by kernel_rfl)) (fun _ _ _ h => h) (Or.inl ⟨by rfl, ?_⟩) ?_ ?_
                        rotate_left
                        · intro w'
                          go_simp
                          with_reducible rfl
                        rotate_left
                        · simp only [Act.put, List.setIfInBounds_toArray, List.set_cons_zero, List.set_cons_succ, i64_w, i32_w]
                          rfl
                        refine pure_ (i := 10) (N := some 34) (v := ?_) (a' := ?_) #[true, true, true, true, true, true, true, true, true, true, true, false, false] rfl rfl (any_of HT_.out (by kernel_rfl)) (fun _ _ _ h => h) (Or.inl ⟨by rfl, ?_⟩) ?_ ?_
                        rotate_left
                        · intro w'
                          go_simp
                          with_reducible rfl
                        rotate_left
                        · simp only [Act.put, List.setIfInBounds_toArray, List.set_cons_zero, List.set_cons_succ, i64_w, i32_w]
                          rfl
                        refine pure_ (i := 11) (N := some 35) (v := ?_) (a' := ?_) #[true, true, true, true, true, true, true, true, true, true, true, true, false] rfl rfl (any_of HT_.out (by kernel_rfl)) (fun _ _ _ h => h) (Or.inl ⟨by rfl, ?_⟩) ?_ ?_
                        rotate_left
                        · intro w'
                          go_simp
                          with_reducible rfl
                        rotate_left
                        · simp only [Act.put, List.setIfInBounds_toArray, List.set_cons_zero, List.set_cons_succ, i64_w, i32_w]
                          rfl
                        refine last_ (i := 12) (N := none) #[true, true, true, true, true, true, true, true, true, true, true, true, true] rfl rfl (one_of HT_.out (by kernel_rfl)) (by decide) (fun K hK => ?_)
                        refine skip_ (w1 := ?_) (by rfl) rfl ?_ ?_
                        rotate_left
                        · go_simp
                          rfl
                        refine hK.out _ _ ?_
                        clear hK K
                        refine done_ (done_of HT_.out (by kernel_rfl)) ?_
                        try go_wp2
                        go_roundg k1
                        case measure => have := HK1.out; omega
                        case rel => exact ⟨(y239), (wrap64 (x6_1 + 1)), (by first | rfl | (simp; done) | (simp [*]; done)), H', ⟨by have := HK1.out; omega⟩, ⟨by (with_reducible repeat (first | apply Kd.R_alloc | apply Kd.R_drewN | apply Kd.R_drew)); exact HQ32.out⟩, ⟨by repeat (first | (with_reducible first | exact HB.out | apply below_alloc | apply pw_below_drewN | apply below_drew1 | refine below_set ?_ GB30.out) | exact HB.out)⟩⟩
                      · rw [if_neg c29] at H
                        exact absurd H (by simp)
                    · rw [if_neg c28] at H
                      exact absurd H (by simp)
            · rw [if_neg c8] at H
              exact absurd H (by simp)
          · rw [if_neg c7] at H
            have c7b0 : decide (x6_1 < (a1.size : Int)) = false := decide_eq_false c7
            clear c7
            obtain rfl := Option.some.inj H
            have hcv33 := own_string (P := Tryd.prog) Tryd.underlying60 Tryd.underlying5 Tryd.underlying9 (Kd.own_of_R HO_5.out)
            go_wp2
            go_ret
            exact ⟨by first | rfl | (simp [errW_none, errW_some] <;> rfl) | (simp [*, errW_none, errW_some] <;> rfl), by repeat (first | (with_reducible first | exact HB.out | apply below_alloc | apply pw_below_drewN | apply below_drew1) | exact HB.out)⟩
    · rw [if_neg c4] at H
      exact absurd H (by simp)
  · rw [if_neg c3] at H
    exact absurd H (by simp)
end Go.Proofs.YtlmgkmmdaecpdaaDoor.Im

namespace Go.Proofs.YtlmgkmmdaecpdaaDoor.Im
open Go.RowKit Go.Proofs.YtlmgkmmdaecpdaaDoorW.PrintWords Go.Proofs.YtlmgkmmdaecpdaaDoorW.PrintLast Go.Proofs.YtlmgkmmdaecpdaaDoorW.PrintMore Go.Proofs.YtlmgkmmdaecpdaaDoor.Mi
set_option linter.unusedVariables false
structure Env (w : World) (mL : Int) : Prop where
  st : Steps w
  mx : w.cell? ⟨1, 0, none⟩ = some (.int .i64 mL)
theorem Env.later {w w' : World} {mL : Int} (h : Env w mL) {B : Nat} (hb : Below B w w') (hB : B = w.heap.size) : Env w' mL := by
  subst hB
  exact ⟨h.st.later hb, (hb.cell (World.block_lt_of_cell? w _ h.mx)).trans h.mx⟩
theorem alive_env {w : World} {mL : Int} (h : Env w mL) : Calls Tryd.prog 17 #[] w fun e w' => e = .returned (.bool true) ∧ Below w.heap.size w w' := alive_any w h.st mL h.mx
end Go.Proofs.YtlmgkmmdaecpdaaDoor.Im

namespace Go.Proofs.YtlmgkmmdaecpdaaDoor.Im
open Go.RowKit Go.Proofs.YtlmgkmmdaecpdaaDoorW.PrintWords Go.Proofs.YtlmgkmmdaecpdaaDoorW.PrintLast Go.Proofs.YtlmgkmmdaecpdaaDoorW.PrintMore Go.Proofs.YtlmgkmmdaecpdaaDoor.Mi
set_option linter.unusedVariables false
set_option linter.unusedSimpArgs false
def orZ (E : Int) (a : Nat) : Nat := if E = 0 then a else 0
theorem doors_both {n : Int} {s : ByteArray} {w w' : World} {e : Ending} (h : DoorsPost n s w e w') : e = .returned (.tuple #[.int .i64 (orZ (triE n s) (bdL n.toNat s.data.toList) : Nat), .int .i64 (orZ (triE n s) (alL n.toNat s.data.toList) : Nat), .int .i64 (triE n s)]) ∧ Below w.heap.size w w' := by
  obtain ⟨h1, h2⟩ := h
  unfold orZ
  by_cases h0 : triE n s = 0
  · rw [if_pos h0] at h2
    rw [if_pos h0, if_pos h0, h0]
    exact ⟨h2, h1⟩
  · rw [if_neg h0] at h2
    rw [if_neg h0, if_neg h0]
    exact ⟨h2, h1⟩
theorem turns_both {n : Int} {s : ByteArray} {w w' : World} {e : Ending} (h : TurnsPost n s w e w') : e = .returned (.tuple #[.int .i64 (orZ (triE n s) (rigL n.toNat s.data.toList) : Nat), .int .i64 (orZ (triE n s) (lefL n.toNat s.data.toList) : Nat), .int .i64 (triE n s)]) ∧ Below w.heap.size w w' := by
  obtain ⟨h1, h2⟩ := h
  unfold orZ
  by_cases h0 : triE n s = 0
  · rw [if_pos h0] at h2
    rw [if_pos h0, if_pos h0, h0]
    exact ⟨h2, h1⟩
  · rw [if_neg h0] at h2
    rw [if_neg h0, if_neg h0]
    exact ⟨h2, h1⟩
set_option maxHeartbeats 6400000 in
set_option maxRecDepth 100000 in
theorem law_doors (n : Int) (s : ByteArray) (w : World) (hst : Steps w) (mL : Int) (hm : w.cell? ⟨1, 0, none⟩ = some (.int .i64 mL)) (hss : s.size ≤ 9223372036854775807) :
    Calls Tryd.prog 12 #[.int .i64 n, .string s] w fun e w' => e = .returned (.bool true) ∧ Below w.heap.size w w' := by
  have HE := Aside0.mk (Env.mk hst hm)
  have HB0 := Aside0.mk (Below.refl w.heap.size w)
  clear hst hm
  by_cases h2 : 300 < s.size
  · have t1 : decide (300 < (s.size : Int)) = true := decide_eq_true (by omega)
    have t2 : decide (300 < s.size) = true := decide_eq_true h2
    clear h2
    go_enter Tryd.func12, Tryd.ntmps12
    go_wp2_with fail
    refine (alive_env (HE.out)).mono ?_
    rintro e w1 ⟨rfl, hb1⟩
    have HB1 := Aside0.mk (below_then HB0.out HB0.out.size hb1)
    clear hb1 HB0
    go_wp2_with fail
    go_ret
    exact ⟨rfl, HB1.out⟩
  · have t1 : decide (300 < (s.size : Int)) = false := decide_eq_false (by omega)
    have t2 : decide (300 < s.size) = false := decide_eq_false h2
    have HDo := Aside0.mk (fun w1 => (doors_call n s w1 hss).mono (fun e w' h => doors_both h))
    have HRd := Aside0.mk (fun w1 => (rdoors_call n s w1 (by omega)).mono (fun e w' h => doors_both h))
    have HTu := Aside0.mk (fun (w1 : World) (h : Env w1 mL) => (turns_call n s w1 hss mL h.mx).mono (fun e w' h => turns_both h))
    have HRt := Aside0.mk (fun w1 => (rturns_call n s w1 (by omega)).mono (fun e w' h => turns_both h))
    obtain ⟨x1, hx1⟩ : ∃ x, orZ (triE n s) (bdL n.toNat s.data.toList) = x := ⟨_, rfl⟩
    obtain ⟨x2, hx2⟩ : ∃ x, orZ (triE n s) (alL n.toNat s.data.toList) = x := ⟨_, rfl⟩
    obtain ⟨x3, hx3⟩ : ∃ x, orZ (triE n s) (rigL n.toNat s.data.toList) = x := ⟨_, rfl⟩
    obtain ⟨x4, hx4⟩ : ∃ x, orZ (triE n s) (lefL n.toNat s.data.toList) = x := ⟨_, rfl⟩
    obtain ⟨E, hE⟩ : ∃ E, triE n s = E := ⟨_, rfl⟩
    rw [hx1, hx2, hE] at HDo HRd
    rw [hx3, hx4, hE] at HTu HRt
    have q1 : ((x1 : Int) != (x1 : Int)) = false := by simp
    have q2 : ((x2 : Int) != (x2 : Int)) = false := by simp
    have q3 : (E != E) = false := by simp
    have q4 : ((x3 : Int) == (x3 : Int)) = true := by simp
    have q5 : ((x4 : Int) == (x4 : Int)) = true := by simp
    have q6 : (E == E) = true := by simp
    clear hx1 hx2 hx3 hx4 hE h2
    go_enter Tryd.func12, Tryd.ntmps12
    go_wp2_with fail
    refine (HDo.out w).mono ?_
    rintro e w1 ⟨rfl, hb1⟩
    have HB1 := Aside0.mk (below_then HB0.out HB0.out.size hb1)
    clear hb1 HB0
    go_wp2_with fail
    refine (HRd.out w1).mono ?_
    rintro e w2 ⟨rfl, hb2⟩
    have HB2 := Aside0.mk (below_then HB1.out HB1.out.size hb2)
    clear hb2 HB1
    go_wp2_with fail
    refine (HTu.out w2 (HE.out.later HB2.out rfl)).mono ?_
    rintro e w3 ⟨rfl, hb3⟩
    have HB3 := Aside0.mk (below_then HB2.out HB2.out.size hb3)
    clear hb3 HB2
    go_wp2_with fail
    refine (HRt.out w3).mono ?_
    rintro e w4 ⟨rfl, hb4⟩
    have HB4 := Aside0.mk (below_then HB3.out HB3.out.size hb4)
    clear hb4 HB3
    go_wp2_with fail
    refine (alive_env (HE.out.later HB4.out rfl)).mono ?_
    rintro e w5 ⟨rfl, hb5⟩
    have HB5 := Aside0.mk (below_then HB4.out HB4.out.size hb5)
    clear hb5 HB4
    go_wp2_with fail
    go_ret
    exact ⟨rfl, HB5.out⟩
end Go.Proofs.YtlmgkmmdaecpdaaDoor.Im

