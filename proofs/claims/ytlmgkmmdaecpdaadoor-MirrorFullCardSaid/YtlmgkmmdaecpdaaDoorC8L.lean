/- Further parts of the same walk: contracts of the functions that the law reaches, each under the conditions that it states. -/
import Derived.Test.YtlmgkmmdaecpdaaDoorC8K
import Derived.Deep.RegionHeld
namespace Go.Proofs.YtlmgkmmdaecpdaaDoor.Im
open Go.RowKit
set_option linter.unusedVariables false
section
variable {P : Program} {ops : Array Oper} {Q : Exit → Act → World → Prop} {md : Region.Mode} {S : World → Prop}
theorem at_list {i : Nat} {o : Oper} (h : ops.toList[i]? = some o) : ops[i]? = some o := by rw [← Array.getElem?_toList]; exact h
theorem wpAnyH_takeL {i : Nat} {oi : Oper} {v : Value} {fuel : Nat} {listed : Array Bool} {a : Act} {w : World} (hi : ops.toList[i]? = some oi)
    (hs : Region.noSelect ops = true) (hf : Region.free md ops listed i = true) (hr : (Region.ready md ops listed).contains i = true)
    (hQ : ∀ c a w, Q (.panic c) (a.put oi.dst v) w → Q (.panic c) a w) (hy : YieldsIf P ops S oi v a) (hS : S w)
    (h : wpAnyH P md ops Q S fuel (listed.setIfInBounds i true) (a.put oi.dst v) w) : wpAnyH P md ops Q S (fuel + 1) listed a w :=
  wpAnyH_take (at_list hi) hs hf hr hQ hy hS h
theorem AllReadyH.consL {fuel : Nat} {listed : Array Bool} {a : Act} {w : World} {i : Nat} {o : Oper} {rs : List Nat} (ho : ops.toList[i]? = some o)
    (h : ∀ K' : Act → World → Prop, Shut (∀ a w, S w → (S w → wpAnyH P md ops Q S fuel (listed.setIfInBounds i true) a w) → K' a w) → if Region.wanted o (yielded ops a.tmps) = true then Oper.wp P o a w K' Q else K' (a.put o.dst undef) w)
    (hs : AllReadyH P md ops Q S fuel listed a w rs) : AllReadyH P md ops Q S fuel listed a w (i :: rs) := AllReadyH.cons (at_list ho) h hs
end
end Go.Proofs.YtlmgkmmdaecpdaaDoor.Im

namespace Go.Proofs.YtlmgkmmdaecpdaaDoor.Im
open Go.RowKit Go.Proofs.YtlmgkmmdaecpdaaDoorW.PrintWords Go.Proofs.YtlmgkmmdaecpdaaDoorW.PrintLast Go.Proofs.YtlmgkmmdaecpdaaDoorW.PrintMore Go.Proofs.YtlmgkmmdaecpdaaDoor.Mi
set_option linter.unusedVariables false
set_option linter.unusedSimpArgs false
theorem conv3a (w : World) (t : TypeId) (a b c : UInt8) (cap : Nat) : (convert 60 9 (.slice (some ⟨w.heap.size, 0, none⟩) 3 cap)).run Tryd.prog (w.alloc (.cells #[.int .u8 (a.toNat : Int), .int .u8 (b.toNat : Int), .int .u8 (c.toNat : Int)] t)) = .ok (.string ⟨#[a, b, c]⟩) (w.alloc (.cells #[.int .u8 (a.toNat : Int), .int .u8 (b.toNat : Int), .int .u8 (c.toNat : Int)] t)) := by
  have hb : Lib.Bytes (w.alloc (.cells #[.int .u8 (a.toNat : Int), .int .u8 (b.toNat : Int), .int .u8 (c.toNat : Int)] t)) w.heap.size 0 ⟨#[a, b, c]⟩ := by
    intro i hi
    have hi3 : i < 3 := hi
    rw [Nat.zero_add, (Blk.new w t _).cell]
    match i, hi3 with
    | 0, _ => rfl
    | 1, _ => rfl
    | 2, _ => rfl
  exact Lib.run_convert_whole (P := Tryd.prog) _ 60 5 9 Tryd.underlying60 Tryd.underlying5 Tryd.underlying9 w.heap.size 0 _ hb cap
set_option maxHeartbeats 12800000 in
set_option maxRecDepth 100000 in
theorem told_0 (n : Nat) (s : ByteArray) (i j : Nat) (w : World) (hn : n ≤ 20) (hij : i + j + 0 + 1 ≤ n) (hs : s.size = offT n (n + 1)) :
    Calls Tryd.prog 58 #[.int .i64 n, .string s, .agg #[.int .i64 0, .int .i64 (i : Nat), .int .i64 (j : Nat)]] w fun e w' => e = .returned (.string (txtB n s.data.toList 0 i j)) ∧ Below w.heap.size w w' := by
  have HP := Aside0.mk (fun w1 => corners_0 i j w1 (by omega) (by omega))
  have hc0 := fun w1 => colour_any n s i j w1 hn (by omega) hs
  have hc1 := fun w1 => colour_any n s (i + 1) j w1 hn (by omega) hs
  have hc2 := fun w1 => colour_any n s i (j + 1) w1 hn (by omega) hs
  obtain ⟨x0, hx0⟩ : ∃ x, colB n s.data.toList i j = x := ⟨_, rfl⟩
  rw [hx0] at hc0
  push_cast at hc0
  have HC0 := Aside0.mk hc0
  obtain ⟨x1, hx1⟩ : ∃ x, colB n s.data.toList (i + 1) j = x := ⟨_, rfl⟩
  rw [hx1] at hc1
  push_cast at hc1
  have HC1 := Aside0.mk hc1
  obtain ⟨x2, hx2⟩ : ∃ x, colB n s.data.toList i (j + 1) = x := ⟨_, rfl⟩
  rw [hx2] at hc2
  push_cast at hc2
  have HC2 := Aside0.mk hc2
  have HR : Aside0 (txtB n s.data.toList 0 i j = ⟨#[x0, x1, x2]⟩) := ⟨by unfold txtB; rw [if_pos rfl, hx0, hx1, hx2]⟩
  clear hij hs hn hc0 hc1 hc2 hx0 hx1 hx2
  go_enter Tryd.func58, Tryd.ntmps58
  go_wp2_with fail
  refine (HP.out _).mono ?_
  rintro e w1 ⟨rfl, hb1⟩
  have hb0 : Below w.heap.size w w1 := below_then (below_alloc (Below.refl _ _) _) (by simp) hb1
  have HB := Aside0.mk hb0
  clear hb0 hb1
  go_upto_region 2 with fail
  obtain ⟨gq, hgq⟩ : ∃ gq, w1.heap.size = gq := ⟨_, rfl⟩
  have hb2 : Below w1.heap.size w1 (w1.alloc (.cells #[.int .i64 (i : Nat), .int .i64 (j : Nat), .int .i64 ((i : Int) + 1), .int .i64 (j : Nat), .int .i64 (i : Nat), .int .i64 ((j : Int) + 1)] 101)) := below_alloc (Below.refl _ _) _
  have HQ := Aside0.mk (Blk.new w1 101 #[.int .i64 (i : Nat), .int .i64 (j : Nat), .int .i64 ((i : Int) + 1), .int .i64 (j : Nat), .int .i64 (i : Nat), .int .i64 ((j : Int) + 1)])
  have HB2 := Aside0.mk (below_then HB.out HB.out.size hb2)
  rw [hgq] at HQ ⊢
  clear hb2 HB
  generalize w1.alloc (.cells #[.int .i64 (i : Nat), .int .i64 (j : Nat), .int .i64 ((i : Int) + 1), .int .i64 (j : Nat), .int .i64 (i : Nat), .int .i64 ((j : Int) + 1)] 101) = W at *
  have hS : ∀ w', Blk w' gq 101 #[.int .i64 (i : Nat), .int .i64 (j : Nat), .int .i64 ((i : Int) + 1), .int .i64 (j : Nat), .int .i64 (i : Nat), .int .i64 ((j : Int) + 1)] → Below w.heap.size w w' → w'.cell? ⟨gq, 0, none⟩ = some (.int .i64 (i : Nat)) ∧ w'.cell? ⟨gq, 1, none⟩ = some (.int .i64 (j : Nat)) ∧ w'.cell? ⟨gq, 2, none⟩ = some (.int .i64 ((i : Int) + 1)) ∧ w'.cell? ⟨gq, 3, none⟩ = some (.int .i64 (j : Nat)) ∧ w'.cell? ⟨gq, 4, none⟩ = some (.int .i64 (i : Nat)) ∧ w'.cell? ⟨gq, 5, none⟩ = some (.int .i64 ((j : Int) + 1)) ∧ Blk w' gq 101 #[.int .i64 (i : Nat), .int .i64 (j : Nat), .int .i64 ((i : Int) + 1), .int .i64 (j : Nat), .int .i64 (i : Nat), .int .i64 ((j : Int) + 1)] ∧ Below w.heap.size w w' := fun w' h1 h2 => ⟨h1.cell 0, h1.cell 1, h1.cell 2, h1.cell 3, h1.cell 4, h1.cell 5, h1, h2⟩
  have hnew := HQ.out.drew
  have hbel := below_drew HB2.out
  have hcv := conv3a
  refine wp_region_held_drew (S := fun w' => w'.cell? ⟨gq, 0, none⟩ = some (.int .i64 (i : Nat)) ∧ w'.cell? ⟨gq, 1, none⟩ = some (.int .i64 (j : Nat)) ∧ w'.cell? ⟨gq, 2, none⟩ = some (.int .i64 ((i : Int) + 1)) ∧ w'.cell? ⟨gq, 3, none⟩ = some (.int .i64 (j : Nat)) ∧ w'.cell? ⟨gq, 4, none⟩ = some (.int .i64 (i : Nat)) ∧ w'.cell? ⟨gq, 5, none⟩ = some (.int .i64 ((j : Int) + 1)) ∧ Blk w' gq 101 #[.int .i64 (i : Nat), .int .i64 (j : Nat), .int .i64 ((i : Int) + 1), .int .i64 (j : Nat), .int .i64 (i : Nat), .int .i64 ((j : Int) + 1)] ∧ Below w.heap.size w w') (by kernel_rfl) ?_ (fun hHeld => ?_)
  · exact hS _ hnew hbel
  refine wpAnyH_takeL (i := 0) (v := ?_) rfl (by kernel_rfl) (by kernel_rfl) (by kernel_rfl) (fun _ _ _ h => h) (Or.inl ⟨by rfl, ?_⟩) hHeld ?_
  rotate_left
  · intro w hSw
    (try dsimp only at hSw)
    go_simp
    all_goals with_reducible rfl
  try simp only [Act.put, List.setIfInBounds_toArray, List.set_cons_zero, List.set_cons_succ]
  refine wpAnyH_takeL (i := 1) (v := ?_) rfl (by kernel_rfl) (by kernel_rfl) (by kernel_rfl) (fun _ _ _ h => h) (Or.inl ⟨by rfl, ?_⟩) hHeld ?_
  rotate_left
  · intro w hSw
    (try dsimp only at hSw)
    go_simp
    all_goals with_reducible rfl
  try simp only [Act.put, List.setIfInBounds_toArray, List.set_cons_zero, List.set_cons_succ]
  refine wpAnyH_takeL (i := 2) (v := ?_) rfl (by kernel_rfl) (by kernel_rfl) (by kernel_rfl) (fun _ _ _ h => h) (Or.inl ⟨by rfl, ?_⟩) hHeld ?_
  rotate_left
  · intro w hSw
    (try dsimp only at hSw)
    go_simp
    all_goals with_reducible rfl
  try simp only [Act.put, List.setIfInBounds_toArray, List.set_cons_zero, List.set_cons_succ]
  refine wpAnyH_takeL (i := 3) (v := ?_) rfl (by kernel_rfl) (by kernel_rfl) (by kernel_rfl) (fun _ _ _ h => h) (Or.inl ⟨by rfl, ?_⟩) hHeld ?_
  rotate_left
  · intro w hSw
    (try dsimp only at hSw)
    go_simp
    all_goals with_reducible rfl
  try simp only [Act.put, List.setIfInBounds_toArray, List.set_cons_zero, List.set_cons_succ]
  refine wpAnyH_takeL (i := 5) (v := ?_) rfl (by kernel_rfl) (by kernel_rfl) (by kernel_rfl) (fun _ _ _ h => h) (Or.inl ⟨by rfl, ?_⟩) hHeld ?_
  rotate_left
  · intro w hSw
    (try dsimp only at hSw)
    go_simp
    all_goals with_reducible rfl
  try simp only [Act.put, List.setIfInBounds_toArray, List.set_cons_zero, List.set_cons_succ]
  refine wpAnyH_takeL (i := 6) (v := ?_) rfl (by kernel_rfl) (by kernel_rfl) (by kernel_rfl) (fun _ _ _ h => h) (Or.inl ⟨by rfl, ?_⟩) hHeld ?_
  rotate_left
  · intro w hSw
    (try dsimp only at hSw)
    go_simp
    all_goals with_reducible rfl
  try simp only [Act.put, List.setIfInBounds_toArray, List.set_cons_zero, List.set_cons_succ]
  refine wpAnyH_takeL (i := 7) (v := ?_) rfl (by kernel_rfl) (by kernel_rfl) (by kernel_rfl) (fun _ _ _ h => h) (Or.inl ⟨by rfl, ?_⟩) hHeld ?_
  rotate_left
  · intro w hSw
    (try dsimp only at hSw)
    go_simp
    all_goals with_reducible rfl
  try simp only [Act.put, List.setIfInBounds_toArray, List.set_cons_zero, List.set_cons_succ]
  refine wpAnyH_takeL (i := 8) (v := ?_) rfl (by kernel_rfl) (by kernel_rfl) (by kernel_rfl) (fun _ _ _ h => h) (Or.inl ⟨by rfl, ?_⟩) hHeld ?_
  rotate_left
  · intro w hSw
    (try dsimp only at hSw)
    go_simp
    all_goals with_reducible rfl
  try simp only [Act.put, List.setIfInBounds_toArray, List.set_cons_zero, List.set_cons_succ]
  refine wpAnyH_takeL (i := 10) (v := ?_) rfl (by kernel_rfl) (by kernel_rfl) (by kernel_rfl) (fun _ _ _ h => h) (Or.inl ⟨by rfl, ?_⟩) hHeld ?_
  rotate_left
  · intro w hSw
    (try dsimp only at hSw)
    go_simp
    all_goals with_reducible rfl
  try simp only [Act.put, List.setIfInBounds_toArray, List.set_cons_zero, List.set_cons_succ]
  refine wpAnyH_takeL (i := 11) (v := ?_) rfl (by kernel_rfl) (by kernel_rfl) (by kernel_rfl) (fun _ _ _ h => h) (Or.inl ⟨by rfl, ?_⟩) hHeld ?_
  rotate_left
  · intro w hSw
    (try dsimp only at hSw)
    go_simp
    all_goals with_reducible rfl
  try simp only [Act.put, List.setIfInBounds_toArray, List.set_cons_zero, List.set_cons_succ]
  refine wpAnyH_takeL (i := 12) (v := ?_) rfl (by kernel_rfl) (by kernel_rfl) (by kernel_rfl) (fun _ _ _ h => h) (Or.inl ⟨by rfl, ?_⟩) hHeld ?_
  rotate_left
  · intro w hSw
    (try dsimp only at hSw)
    go_simp
    all_goals with_reducible rfl
  try simp only [Act.put, List.setIfInBounds_toArray, List.set_cons_zero, List.set_cons_succ]
  refine wpAnyH_takeL (i := 13) (v := ?_) rfl (by kernel_rfl) (by kernel_rfl) (by kernel_rfl) (fun _ _ _ h => h) (Or.inl ⟨by rfl, ?_⟩) hHeld ?_
  rotate_left
  · intro w hSw
    (try dsimp only at hSw)
    go_simp
    all_goals with_reducible rfl
  try simp only [Act.put, List.setIfInBounds_toArray, List.set_cons_zero, List.set_cons_succ]
  refine wpAnyH_ready (rs := [4]) (by kernel_rfl) (by simp) ?_
  refine AllReadyH.consL rfl (fun K hK => ?_) ?_
  · go_simp
    refine (HC0.out _).mono ?_
    rintro e w2 ⟨rfl, hb2⟩
    have hnew2 := Blk.later hnew hb2; have hbel2 := below_then hbel hbel.size hb2; clear hb2
    go_wp2_with fail
    refine hK.out _ _ ?_ (fun hHeld => ?_)
    · exact hS _ hnew2 hbel2
    clear hK K
    try simp only [Act.put, List.setIfInBounds_toArray, List.set_cons_zero, List.set_cons_succ]
    refine wpAnyH_ready (rs := [9]) (by kernel_rfl) (by simp) ?_
    refine AllReadyH.consL rfl (fun K hK => ?_) ?_
    · go_simp
      refine (HC1.out _).mono ?_
      rintro e w2 ⟨rfl, hb2⟩
      have hnew3 := Blk.later hnew2 hb2; have hbel3 := below_then hbel2 hbel2.size hb2; clear hb2 hnew2 hbel2; have hnew2 := hnew3; have hbel2 := hbel3; clear hnew3 hbel3
      go_wp2_with fail
      refine hK.out _ _ ?_ (fun hHeld => ?_)
      · exact hS _ hnew2 hbel2
      clear hK K
      try simp only [Act.put, List.setIfInBounds_toArray, List.set_cons_zero, List.set_cons_succ]
      refine wpAnyH_ready (rs := [14]) (by kernel_rfl) (by simp) ?_
      refine AllReadyH.consL rfl (fun K hK => ?_) ?_
      · go_simp
        refine (HC2.out _).mono ?_
        rintro e w2 ⟨rfl, hb2⟩
        have hnew3 := Blk.later hnew2 hb2; have hbel3 := below_then hbel2 hbel2.size hb2; clear hb2 hnew2 hbel2; have hnew2 := hnew3; have hbel2 := hbel3; clear hnew3 hbel3
        go_wp2_with fail
        refine hK.out _ _ ?_ (fun hHeld => ?_)
        · exact hS _ hnew2 hbel2
        clear hK K
        try simp only [Act.put, List.setIfInBounds_toArray, List.set_cons_zero, List.set_cons_succ]
        refine wpAnyH_ready (rs := [15]) (by kernel_rfl) (by simp) ?_
        refine AllReadyH.consL rfl (fun K hK => ?_) ?_
        · go_simp
          refine hK.out _ _ ?_ (fun hHeld => ?_)
          · exact hS _ (hnew2.alloc _) (below_alloc hbel2 _)
          clear hK K
          try simp only [Act.put, List.setIfInBounds_toArray, List.set_cons_zero, List.set_cons_succ]
          refine wpAnyH_ready (rs := [16]) (by kernel_rfl) (by simp) ?_
          refine AllReadyH.consL rfl (fun K hK => ?_) ?_
          · go_simp
            refine hK.out _ _ ?_ (fun hHeld => ?_)
            · exact hS _ (hnew2.alloc _) (below_alloc hbel2 _)
            clear hK K
            try simp only [Act.put, List.setIfInBounds_toArray, List.set_cons_zero, List.set_cons_succ]
            refine wpAnyH_takeL (i := 17) (v := ?_) rfl (by kernel_rfl) (by kernel_rfl) (by kernel_rfl) (fun _ _ _ h => h) (Or.inl ⟨by rfl, ?_⟩) hHeld ?_
            rotate_left
            · intro w hSw
              (try dsimp only at hSw)
              go_simp
              all_goals with_reducible rfl
            try simp only [Act.put, List.setIfInBounds_toArray, List.set_cons_zero, List.set_cons_succ]
            refine wpAnyH_done (by kernel_rfl) ?_ _
            go_wp2_with fail
            go_ret
            exact ⟨by rw [HR.out]; rfl, below_alloc hbel2 _⟩
          exact AllReadyH.nil
        exact AllReadyH.nil
      exact AllReadyH.nil
    exact AllReadyH.nil
  exact AllReadyH.nil
set_option maxHeartbeats 12800000 in
set_option maxRecDepth 100000 in
theorem told_1 (n : Nat) (s : ByteArray) (i j : Nat) (w : World) (hn : n ≤ 20) (hij : i + j + 1 + 1 ≤ n) (hs : s.size = offT n (n + 1)) :
    Calls Tryd.prog 58 #[.int .i64 n, .string s, .agg #[.int .i64 1, .int .i64 (i : Nat), .int .i64 (j : Nat)]] w fun e w' => e = .returned (.string (txtB n s.data.toList 1 i j)) ∧ Below w.heap.size w w' := by
  have HP := Aside0.mk (fun w1 => corners_1 i j w1 (by omega) (by omega))
  have hc0 := fun w1 => colour_any n s (i + 1) j w1 hn (by omega) hs
  have hc1 := fun w1 => colour_any n s i (j + 1) w1 hn (by omega) hs
  have hc2 := fun w1 => colour_any n s (i + 1) (j + 1) w1 hn (by omega) hs
  obtain ⟨x0, hx0⟩ : ∃ x, colB n s.data.toList (i + 1) j = x := ⟨_, rfl⟩
  rw [hx0] at hc0
  push_cast at hc0
  have HC0 := Aside0.mk hc0
  obtain ⟨x1, hx1⟩ : ∃ x, colB n s.data.toList i (j + 1) = x := ⟨_, rfl⟩
  rw [hx1] at hc1
  push_cast at hc1
  have HC1 := Aside0.mk hc1
  obtain ⟨x2, hx2⟩ : ∃ x, colB n s.data.toList (i + 1) (j + 1) = x := ⟨_, rfl⟩
  rw [hx2] at hc2
  push_cast at hc2
  have HC2 := Aside0.mk hc2
  have HR : Aside0 (txtB n s.data.toList 1 i j = ⟨#[x0, x1, x2]⟩) := ⟨by unfold txtB; rw [if_neg (by decide), hx0, hx1, hx2]⟩
  clear hij hs hn hc0 hc1 hc2 hx0 hx1 hx2
  go_enter Tryd.func58, Tryd.ntmps58
  go_wp2_with fail
  refine (HP.out _).mono ?_
  rintro e w1 ⟨rfl, hb1⟩
  have hb0 : Below w.heap.size w w1 := below_then (below_alloc (Below.refl _ _) _) (by simp) hb1
  have HB := Aside0.mk hb0
  clear hb0 hb1
  go_upto_region 2 with fail
  obtain ⟨gq, hgq⟩ : ∃ gq, w1.heap.size = gq := ⟨_, rfl⟩
  have hb2 : Below w1.heap.size w1 (w1.alloc (.cells #[.int .i64 ((i : Int) + 1), .int .i64 (j : Nat), .int .i64 (i : Nat), .int .i64 ((j : Int) + 1), .int .i64 ((i : Int) + 1), .int .i64 ((j : Int) + 1)] 101)) := below_alloc (Below.refl _ _) _
  have HQ := Aside0.mk (Blk.new w1 101 #[.int .i64 ((i : Int) + 1), .int .i64 (j : Nat), .int .i64 (i : Nat), .int .i64 ((j : Int) + 1), .int .i64 ((i : Int) + 1), .int .i64 ((j : Int) + 1)])
  have HB2 := Aside0.mk (below_then HB.out HB.out.size hb2)
  rw [hgq] at HQ ⊢
  clear hb2 HB
  generalize w1.alloc (.cells #[.int .i64 ((i : Int) + 1), .int .i64 (j : Nat), .int .i64 (i : Nat), .int .i64 ((j : Int) + 1), .int .i64 ((i : Int) + 1), .int .i64 ((j : Int) + 1)] 101) = W at *
  have hS : ∀ w', Blk w' gq 101 #[.int .i64 ((i : Int) + 1), .int .i64 (j : Nat), .int .i64 (i : Nat), .int .i64 ((j : Int) + 1), .int .i64 ((i : Int) + 1), .int .i64 ((j : Int) + 1)] → Below w.heap.size w w' → w'.cell? ⟨gq, 0, none⟩ = some (.int .i64 ((i : Int) + 1)) ∧ w'.cell? ⟨gq, 1, none⟩ = some (.int .i64 (j : Nat)) ∧ w'.cell? ⟨gq, 2, none⟩ = some (.int .i64 (i : Nat)) ∧ w'.cell? ⟨gq, 3, none⟩ = some (.int .i64 ((j : Int) + 1)) ∧ w'.cell? ⟨gq, 4, none⟩ = some (.int .i64 ((i : Int) + 1)) ∧ w'.cell? ⟨gq, 5, none⟩ = some (.int .i64 ((j : Int) + 1)) ∧ Blk w' gq 101 #[.int .i64 ((i : Int) + 1), .int .i64 (j : Nat), .int .i64 (i : Nat), .int .i64 ((j : Int) + 1), .int .i64 ((i : Int) + 1), .int .i64 ((j : Int) + 1)] ∧ Below w.heap.size w w' := fun w' h1 h2 => ⟨h1.cell 0, h1.cell 1, h1.cell 2, h1.cell 3, h1.cell 4, h1.cell 5, h1, h2⟩
  have hnew := HQ.out.drew
  have hbel := below_drew HB2.out
  have hcv := conv3a
  refine wp_region_held_drew (S := fun w' => w'.cell? ⟨gq, 0, none⟩ = some (.int .i64 ((i : Int) + 1)) ∧ w'.cell? ⟨gq, 1, none⟩ = some (.int .i64 (j : Nat)) ∧ w'.cell? ⟨gq, 2, none⟩ = some (.int .i64 (i : Nat)) ∧ w'.cell? ⟨gq, 3, none⟩ = some (.int .i64 ((j : Int) + 1)) ∧ w'.cell? ⟨gq, 4, none⟩ = some (.int .i64 ((i : Int) + 1)) ∧ w'.cell? ⟨gq, 5, none⟩ = some (.int .i64 ((j : Int) + 1)) ∧ Blk w' gq 101 #[.int .i64 ((i : Int) + 1), .int .i64 (j : Nat), .int .i64 (i : Nat), .int .i64 ((j : Int) + 1), .int .i64 ((i : Int) + 1), .int .i64 ((j : Int) + 1)] ∧ Below w.heap.size w w') (by kernel_rfl) ?_ (fun hHeld => ?_)
  · exact hS _ hnew hbel
  refine wpAnyH_takeL (i := 0) (v := ?_) rfl (by kernel_rfl) (by kernel_rfl) (by kernel_rfl) (fun _ _ _ h => h) (Or.inl ⟨by rfl, ?_⟩) hHeld ?_
  rotate_left
  · intro w hSw
    (try dsimp only at hSw)
    go_simp
    all_goals with_reducible rfl
  try simp only [Act.put, List.setIfInBounds_toArray, List.set_cons_zero, List.set_cons_succ]
  refine wpAnyH_takeL (i := 1) (v := ?_) rfl (by kernel_rfl) (by kernel_rfl) (by kernel_rfl) (fun _ _ _ h => h) (Or.inl ⟨by rfl, ?_⟩) hHeld ?_
  rotate_left
  · intro w hSw
    (try dsimp only at hSw)
    go_simp
    all_goals with_reducible rfl
  try simp only [Act.put, List.setIfInBounds_toArray, List.set_cons_zero, List.set_cons_succ]
  refine wpAnyH_takeL (i := 2) (v := ?_) rfl (by kernel_rfl) (by kernel_rfl) (by kernel_rfl) (fun _ _ _ h => h) (Or.inl ⟨by rfl, ?_⟩) hHeld ?_
  rotate_left
  · intro w hSw
    (try dsimp only at hSw)
    go_simp
    all_goals with_reducible rfl
  try simp only [Act.put, List.setIfInBounds_toArray, List.set_cons_zero, List.set_cons_succ]
  refine wpAnyH_takeL (i := 3) (v := ?_) rfl (by kernel_rfl) (by kernel_rfl) (by kernel_rfl) (fun _ _ _ h => h) (Or.inl ⟨by rfl, ?_⟩) hHeld ?_
  rotate_left
  · intro w hSw
    (try dsimp only at hSw)
    go_simp
    all_goals with_reducible rfl
  try simp only [Act.put, List.setIfInBounds_toArray, List.set_cons_zero, List.set_cons_succ]
  refine wpAnyH_takeL (i := 5) (v := ?_) rfl (by kernel_rfl) (by kernel_rfl) (by kernel_rfl) (fun _ _ _ h => h) (Or.inl ⟨by rfl, ?_⟩) hHeld ?_
  rotate_left
  · intro w hSw
    (try dsimp only at hSw)
    go_simp
    all_goals with_reducible rfl
  try simp only [Act.put, List.setIfInBounds_toArray, List.set_cons_zero, List.set_cons_succ]
  refine wpAnyH_takeL (i := 6) (v := ?_) rfl (by kernel_rfl) (by kernel_rfl) (by kernel_rfl) (fun _ _ _ h => h) (Or.inl ⟨by rfl, ?_⟩) hHeld ?_
  rotate_left
  · intro w hSw
    (try dsimp only at hSw)
    go_simp
    all_goals with_reducible rfl
  try simp only [Act.put, List.setIfInBounds_toArray, List.set_cons_zero, List.set_cons_succ]
  refine wpAnyH_takeL (i := 7) (v := ?_) rfl (by kernel_rfl) (by kernel_rfl) (by kernel_rfl) (fun _ _ _ h => h) (Or.inl ⟨by rfl, ?_⟩) hHeld ?_
  rotate_left
  · intro w hSw
    (try dsimp only at hSw)
    go_simp
    all_goals with_reducible rfl
  try simp only [Act.put, List.setIfInBounds_toArray, List.set_cons_zero, List.set_cons_succ]
  refine wpAnyH_takeL (i := 8) (v := ?_) rfl (by kernel_rfl) (by kernel_rfl) (by kernel_rfl) (fun _ _ _ h => h) (Or.inl ⟨by rfl, ?_⟩) hHeld ?_
  rotate_left
  · intro w hSw
    (try dsimp only at hSw)
    go_simp
    all_goals with_reducible rfl
  try simp only [Act.put, List.setIfInBounds_toArray, List.set_cons_zero, List.set_cons_succ]
  refine wpAnyH_takeL (i := 10) (v := ?_) rfl (by kernel_rfl) (by kernel_rfl) (by kernel_rfl) (fun _ _ _ h => h) (Or.inl ⟨by rfl, ?_⟩) hHeld ?_
  rotate_left
  · intro w hSw
    (try dsimp only at hSw)
    go_simp
    all_goals with_reducible rfl
  try simp only [Act.put, List.setIfInBounds_toArray, List.set_cons_zero, List.set_cons_succ]
  refine wpAnyH_takeL (i := 11) (v := ?_) rfl (by kernel_rfl) (by kernel_rfl) (by kernel_rfl) (fun _ _ _ h => h) (Or.inl ⟨by rfl, ?_⟩) hHeld ?_
  rotate_left
  · intro w hSw
    (try dsimp only at hSw)
    go_simp
    all_goals with_reducible rfl
  try simp only [Act.put, List.setIfInBounds_toArray, List.set_cons_zero, List.set_cons_succ]
  refine wpAnyH_takeL (i := 12) (v := ?_) rfl (by kernel_rfl) (by kernel_rfl) (by kernel_rfl) (fun _ _ _ h => h) (Or.inl ⟨by rfl, ?_⟩) hHeld ?_
  rotate_left
  · intro w hSw
    (try dsimp only at hSw)
    go_simp
    all_goals with_reducible rfl
  try simp only [Act.put, List.setIfInBounds_toArray, List.set_cons_zero, List.set_cons_succ]
  refine wpAnyH_takeL (i := 13) (v := ?_) rfl (by kernel_rfl) (by kernel_rfl) (by kernel_rfl) (fun _ _ _ h => h) (Or.inl ⟨by rfl, ?_⟩) hHeld ?_
  rotate_left
  · intro w hSw
    (try dsimp only at hSw)
    go_simp
    all_goals with_reducible rfl
  try simp only [Act.put, List.setIfInBounds_toArray, List.set_cons_zero, List.set_cons_succ]
  refine wpAnyH_ready (rs := [4]) (by kernel_rfl) (by simp) ?_
  refine AllReadyH.consL rfl (fun K hK => ?_) ?_
  · go_simp
    refine (HC0.out _).mono ?_
    rintro e w2 ⟨rfl, hb2⟩
    have hnew2 := Blk.later hnew hb2; have hbel2 := below_then hbel hbel.size hb2; clear hb2
    go_wp2_with fail
    refine hK.out _ _ ?_ (fun hHeld => ?_)
    · exact hS _ hnew2 hbel2
    clear hK K
    try simp only [Act.put, List.setIfInBounds_toArray, List.set_cons_zero, List.set_cons_succ]
    refine wpAnyH_ready (rs := [9]) (by kernel_rfl) (by simp) ?_
    refine AllReadyH.consL rfl (fun K hK => ?_) ?_
    · go_simp
      refine (HC1.out _).mono ?_
      rintro e w2 ⟨rfl, hb2⟩
      have hnew3 := Blk.later hnew2 hb2; have hbel3 := below_then hbel2 hbel2.size hb2; clear hb2 hnew2 hbel2; have hnew2 := hnew3; have hbel2 := hbel3; clear hnew3 hbel3
      go_wp2_with fail
      refine hK.out _ _ ?_ (fun hHeld => ?_)
      · exact hS _ hnew2 hbel2
      clear hK K
      try simp only [Act.put, List.setIfInBounds_toArray, List.set_cons_zero, List.set_cons_succ]
      refine wpAnyH_ready (rs := [14]) (by kernel_rfl) (by simp) ?_
      refine AllReadyH.consL rfl (fun K hK => ?_) ?_
      · go_simp
        refine (HC2.out _).mono ?_
        rintro e w2 ⟨rfl, hb2⟩
        have hnew3 := Blk.later hnew2 hb2; have hbel3 := below_then hbel2 hbel2.size hb2; clear hb2 hnew2 hbel2; have hnew2 := hnew3; have hbel2 := hbel3; clear hnew3 hbel3
        go_wp2_with fail
        refine hK.out _ _ ?_ (fun hHeld => ?_)
        · exact hS _ hnew2 hbel2
        clear hK K
        try simp only [Act.put, List.setIfInBounds_toArray, List.set_cons_zero, List.set_cons_succ]
        refine wpAnyH_ready (rs := [15]) (by kernel_rfl) (by simp) ?_
        refine AllReadyH.consL rfl (fun K hK => ?_) ?_
        · go_simp
          refine hK.out _ _ ?_ (fun hHeld => ?_)
          · exact hS _ (hnew2.alloc _) (below_alloc hbel2 _)
          clear hK K
          try simp only [Act.put, List.setIfInBounds_toArray, List.set_cons_zero, List.set_cons_succ]
          refine wpAnyH_ready (rs := [16]) (by kernel_rfl) (by simp) ?_
          refine AllReadyH.consL rfl (fun K hK => ?_) ?_
          · go_simp
            refine hK.out _ _ ?_ (fun hHeld => ?_)
            · exact hS _ (hnew2.alloc _) (below_alloc hbel2 _)
            clear hK K
            try simp only [Act.put, List.setIfInBounds_toArray, List.set_cons_zero, List.set_cons_succ]
            refine wpAnyH_takeL (i := 17) (v := ?_) rfl (by kernel_rfl) (by kernel_rfl) (by kernel_rfl) (fun _ _ _ h => h) (Or.inl ⟨by rfl, ?_⟩) hHeld ?_
            rotate_left
            · intro w hSw
              (try dsimp only at hSw)
              go_simp
              all_goals with_reducible rfl
            try simp only [Act.put, List.setIfInBounds_toArray, List.set_cons_zero, List.set_cons_succ]
            refine wpAnyH_done (by kernel_rfl) ?_ _
            go_wp2_with fail
            go_ret
            exact ⟨by rw [HR.out]; rfl, below_alloc hbel2 _⟩
          exact AllReadyH.nil
        exact AllReadyH.nil
      exact AllReadyH.nil
    exact AllReadyH.nil
  exact AllReadyH.nil
end Go.Proofs.YtlmgkmmdaecpdaaDoor.Im

namespace Go.Proofs.YtlmgkmmdaecpdaaDoor.Im
open Go.RowKit Go.Proofs.YtlmgkmmdaecpdaaDoorW.PrintWords Go.Proofs.YtlmgkmmdaecpdaaDoorW.PrintLast Go.Proofs.YtlmgkmmdaecpdaaDoorW.PrintMore Go.Proofs.YtlmgkmmdaecpdaaDoor.Mi
set_option linter.unusedVariables false
theorem celR_cons (k i j d : Nat) : (List.range (d + 1)).map (fun t => cel k i (j + t)) = cel k i j :: (List.range d).map (fun t => cel k i (j + 1 + t)) := by
  rw [List.range_succ_eq_map, List.map_cons, List.map_map]
  congr 1
  apply List.map_congr_left
  intro t _
  show cel k i (j + (t + 1)) = cel k i (j + 1 + t)
  congr 1
  omega
theorem cells_l2 (n k i : Nat) (hn : n ≤ 20) (hk : k ≤ 1) (hi : i < n) (R : List S77) : ∀ (d j : Nat) (acc : List S77), j + d = n - k - i → acc.length ≤ 2000 + j →
    Gives (fun q => pomaderef04_Cells.l1 q n (acc ++ (List.range d).map (fun t => cel k i (j + t))) k ((i + 1 : Nat) : Int)) R → Gives (fun q => pomaderef04_Cells.l2 q n acc k i j) R
  | 0, j, acc, h, ha, hg => by
    have e : acc ++ (List.range 0).map (fun t => cel k i (j + t)) = acc := by simp
    rw [e] at hg
    refine hg.step fun q hq => ?_
    simp only [pomaderef04_Cells.l2]
    rw [wr_small (x := (i : Int) + (j : Int)) (by omega) (by omega), wr_small (x := (n : Int) - (k : Int)) (by omega) (by omega), if_neg (by omega), wr_succ i (by omega)]
    exact hq
  | d + 1, j, acc, h, ha, hg => by
    refine (cells_l2 n k i hn hk hi R d (j + 1) (acc ++ [cel k i j]) (by omega) (by rw [List.length_append]; simp; omega) ?_).step fun q hq => ?_
    · rw [List.append_assoc]
      rw [celR_cons] at hg
      exact hg
    · simp only [pomaderef04_Cells.l2]
      rw [wr_small (x := (i : Int) + (j : Int)) (by omega) (by omega), wr_small (x := (n : Int) - (k : Int)) (by omega) (by omega), if_pos (by omega), if_pos (by omega), wr_succ j (by omega)]
      exact hq
theorem celI_cons (n k i d : Nat) : (List.range (d + 1)).flatMap (fun t => celR k (i + t) (n - k - (i + t))) = celR k i (n - k - i) ++ (List.range d).flatMap (fun t => celR k (i + 1 + t) (n - k - (i + 1 + t))) := by
  rw [List.range_succ_eq_map, List.flatMap_cons, List.flatMap_map]
  congr 1
  congr 1
  funext t
  rw [show i + t.succ = i + 1 + t by omega]
theorem cells_l1 (n k : Nat) (hn : n ≤ 20) (hk : k ≤ 1) (R : List S77) : ∀ (d i : Nat) (acc : List S77), i + d = n → acc.length ≤ 1000 + i * 20 →
    Gives (fun q => pomaderef04_Cells.l0 q n (acc ++ (List.range d).flatMap (fun t => celR k (i + t) (n - k - (i + t)))) ((k + 1 : Nat) : Int)) R → Gives (fun q => pomaderef04_Cells.l1 q n acc k i) R
  | 0, i, acc, h, ha, hg => by
    have e : acc ++ (List.range 0).flatMap (fun t => celR k (i + t) (n - k - (i + t))) = acc := by simp
    rw [e] at hg
    refine hg.step fun q hq => ?_
    simp only [pomaderef04_Cells.l1]
    rw [if_neg (by omega), wr_succ k (by omega)]
    exact hq
  | d + 1, i, acc, h, ha, hg => by
    have h2 := cells_l2 n k i hn hk (by omega) R (n - k - i) 0 acc (by omega) (by omega) (by
      have e : (List.range (n - k - i)).map (fun t => cel k i (0 + t)) = celR k i (n - k - i) := by
        unfold celR
        apply List.map_congr_left
        intro t _
        rw [Nat.zero_add]
      rw [e]
      refine cells_l1 n k hn hk R d (i + 1) _ (by omega) (by rw [List.length_append, celR_len]; omega) ?_
      rw [List.append_assoc, ← celI_cons]
      exact hg)
    refine h2.step fun q hq => ?_
    simp only [pomaderef04_Cells.l1]
    rw [if_pos (by omega)]
    exact hq
theorem cells_g (n : Nat) (h1 : 1 ≤ n) (hn : n ≤ 20) : Gives (fun q => pomaderef04_Cells.f q n) (cellsL n) := by
  have eI : ∀ k, (List.range n).flatMap (fun t => celR k (0 + t) (n - k - (0 + t))) = celI n k n := fun k => by
    unfold celI
    congr 1
    funext t
    rw [Nat.zero_add]
  have e1 : celI n 1 n = celI n 1 (n - 1) := by
    obtain ⟨m, rfl⟩ : ∃ m, n = m + 1 := ⟨n - 1, by omega⟩
    rw [celI_succ, Nat.add_sub_cancel, Nat.sub_self]
    simp [celR]
  have e0 : cellsL n = celI n 0 n ++ celI n 1 (n - 1) := by
    rw [show cellsL n = celK n (1 + 1) from rfl, celK_succ, show celK n 1 = celK n (0 + 1) from rfl, celK_succ]
    rfl
  have hl0 : (celI n 0 n).length ≤ 400 := by
    have := celI_len hn 0 n
    omega
  have s2 : Gives (fun q => pomaderef04_Cells.l0 q n (cellsL n) ((1 + 1 : Nat) : Int)) (cellsL n) := Gives.now fun q => by
    simp only [pomaderef04_Cells.l0]
    rw [if_neg (by omega)]
  have s1 : Gives (fun q => pomaderef04_Cells.l1 q n (celI n 0 n) ((1 : Nat) : Int) ((0 : Nat) : Int)) (cellsL n) := cells_l1 n 1 hn (Nat.le_refl _) _ n 0 _ (by omega) (by omega) (by rw [eI, e1, ← e0]; exact s2)
  have s0 : Gives (fun q => pomaderef04_Cells.l0 q n (celI n 0 n) ((0 + 1 : Nat) : Int)) (cellsL n) := s1.step fun q hq => by
    simp only [pomaderef04_Cells.l0]
    rw [if_pos (by omega)]
    exact hq
  have t1 : Gives (fun q => pomaderef04_Cells.l1 q n [] ((0 : Nat) : Int) ((0 : Nat) : Int)) (cellsL n) := cells_l1 n 0 hn (by omega) _ n 0 _ (by omega) (by simp) (by rw [eI, List.nil_append]; exact s0)
  refine t1.step fun q hq => ?_
  simp only [pomaderef04_Cells.f, pomaderef04_Cells.l0]
  rw [if_pos (by decide)]
  exact hq
theorem rcells_any (n : Nat) (h1 : 1 ≤ n) (hn : n ≤ 20) (w : World) : Calls Tryd.prog 56 #[.int .i64 n] w fun e w' => ∃ v, e = .returned v ∧ Kd.R k77 77 w' w.heap.size (fun _ => True) v (cellsL n) ∧ Below w.heap.size w w' := by
  obtain ⟨k0, hk0⟩ := cells_g n h1 hn
  exact pomaderef04_Cells.calls k0 n _ w (hk0 k0 (Nat.le_refl _))
end Go.Proofs.YtlmgkmmdaecpdaaDoor.Im

namespace Go.Proofs.YtlmgkmmdaecpdaaDoor.Im
open Go.RowKit Go.Proofs.YtlmgkmmdaecpdaaDoorW.PrintWords Go.Proofs.YtlmgkmmdaecpdaaDoorW.PrintLast Go.Proofs.YtlmgkmmdaecpdaaDoorW.PrintMore Go.Proofs.YtlmgkmmdaecpdaaDoor.Mi
set_option linter.unusedVariables false
set_option linter.unusedSimpArgs false
theorem size_alloc (w : World) (o : Obj) : (w.alloc o).heap.size = w.heap.size + 1 := by simp
theorem cell_alloc {w : World} {a : Addr} {v : Value} (o : Obj) (h : w.cell? a = some v) : (w.alloc o).cell? a = some v := (World.cell?_alloc_lt _ _ _ (World.block_lt_of_cell? w a h)).trans h
theorem cell_below {w w' : World} {a : Addr} {v : Value} (hb : Below w.heap.size w w') (h : w.cell? a = some v) : w'.cell? a = some v := (hb.cell (World.block_lt_of_cell? w a h)).trans h
theorem drew_alloc (w : World) (o : Obj) : (w.alloc o).drew = w.drew.alloc o := rfl
theorem told_any (n : Nat) (s : ByteArray) (k i j : Nat) (w : World) (hn : n ≤ 20) (hk : k ≤ 1) (hij : i + j + k + 1 ≤ n) (hs : s.size = offT n (n + 1)) :
    Calls Tryd.prog 58 #[.int .i64 n, .string s, .agg #[.int .i64 (k : Nat), .int .i64 (i : Nat), .int .i64 (j : Nat)]] w fun e w' => e = .returned (.string (txtB n s.data.toList k i j)) ∧ Below w.heap.size w w' := by
  rcases (show k = 0 ∨ k = 1 by omega) with rfl | rfl
  · exact told_0 n s i j w hn (by omega) hs
  · exact told_1 n s i j w hn (by omega) hs
theorem Col.txt {n : Nat} {l : List UInt8} (h : Col n l) {k i j : Nat} (hk : k ≤ 1) (hij : i + j + k + 1 ≤ n) : ∃ x y z, txtB n l k i j = ⟨#[x, y, z]⟩ ∧ x ∈ three ∧ y ∈ three ∧ z ∈ three := by
  rcases (show k = 0 ∨ k = 1 by omega) with rfl | rfl
  · exact ⟨_, _, _, rfl, mem_three (h.byte (show i + j ≤ n by omega)), mem_three (h.byte (show (i + 1) + j ≤ n by omega)), mem_three (h.byte (show i + (j + 1) ≤ n by omega))⟩
  · exact ⟨_, _, _, rfl, mem_three (h.byte (show (i + 1) + j ≤ n by omega)), mem_three (h.byte (show i + (j + 1) ≤ n by omega)), mem_three (h.byte (show (i + 1) + (j + 1) ≤ n by omega))⟩
theorem rfull_cell {n : Nat} {l : List UInt8} (h : Col n l) {k i j : Nat} (hk : k ≤ 1) (hij : i + j + k + 1 ≤ n) (w : World) : Calls Tryd.prog 57 #[.string (txtB n l k i j)] w fun e w' => e = .returned (.bool (fulB (txtB n l k i j))) ∧ Below w.heap.size w w' := by
  obtain ⟨x, y, z, e, h1, h2, h3⟩ := h.txt hk hij
  rw [e]
  exact rfull_any x y z h1 h2 h3 w
theorem own_i3 (w : World) (i j l : Int) {base : Nat} (hb : base ≤ w.heap.size) : Kd.R (Kd.int .i64) 3 (w.alloc (.cells #[.int .i64 i, .int .i64 j, .int .i64 l] 3)) base (fun q => base ≤ q) (.slice (some ⟨w.heap.size, 0, none⟩) 3 3) [i, j, l] := by
  have h1 : (w.alloc (.cells #[.int .i64 i, .int .i64 j, .int .i64 l] 3)).ownsRow base 3 1 (.slice (some ⟨w.heap.size, 0, none⟩) 3 3) [i, j, l].length (encs (Value.int .i64) [i, j, l]) :=
    ⟨rfl, .inr ⟨w.heap.size, 3, #[.int .i64 i, .int .i64 j, .int .i64 l], rfl, hb, Blk.new w 3 _, by simp, by decide, rfl, rfl⟩⟩
  exact Kd.R_of_own h1 (fun k hk => (World.ownsRow.lt h1 k hk).1)
set_option maxHeartbeats 6400000 in
set_option maxRecDepth 100000 in
theorem rfull_good (n : Int) (s : ByteArray) (w : World) (hs : s.size ≤ 1000000) (hE : triE n s = 0) :
    Calls Tryd.prog 27 #[.int .i64 n, .string s] w (FullPost n s w) := by
  have hcol := col_of hE
  have HTr := Aside0.mk (hE ▸ triangle_any n s w hs)
  have HE := Aside0.mk hE
  have hn1 := hcol.n1
  obtain ⟨N, rfl⟩ : ∃ N : Nat, n = N := ⟨n.toNat, by omega⟩
  rw [Int.toNat_natCast] at hcol hn1
  have hsz : s.size = offT N (N + 1) := by have := hcol.len; rw [Array.length_toList] at this; exact this
  have HTo := Aside0.mk (fun (k i j : Nat) (w1 : World) (hk : k ≤ 1) (hij : i + j + k + 1 ≤ N) => told_any N s k i j w1 hcol.n20 hk hij hsz)
  have HCol := Aside0.mk hcol
  have HCe := Aside0.mk (fun w1 => rcells_any N hn1 hcol.n20 w1)
  obtain ⟨l, hl⟩ : ∃ l, s.data.toList = l := ⟨_, rfl⟩
  rw [hl] at HTo HCol
  have HLs := Aside0.mk hl
  clear hl hE hcol hsz
  go_enter Tryd.func27, Tryd.ntmps27
  go_wp2_with fail
  refine HTr.out.mono ?_
  rintro e w1 ⟨rfl, hb1⟩
  have HB := Aside0.mk hb1
  clear hb1
  go_wp2_with fail
  refine (HCe.out w1).mono ?_
  rintro e w2 ⟨v, rfl, hR, hb2⟩
  obtain ⟨A, c, rfl, hl, hC⟩ := Kd.R_reads hR
  have HC := Aside0.mk hC
  have HB2 := Aside0.mk (below_then HB.out HB.out.size hb2)
  have hlen : (cellsL N).length ≤ 800 := by have := celK_len (n := N) HCol.out.n20 2; unfold cellsL; omega
  clear hC hb2 hR HB
  obtain ⟨Q, hQ⟩ : ∃ Q, (cellsL N).length = Q := ⟨_, rfl⟩
  rw [hQ] at HC hl hlen ⊢
  have HQ := Aside0.mk hQ
  clear hQ
  go_wp2_with fail
  go_loopw [7, 9] (fun v7 v9 wr => ∃ q : Nat, q ≤ Q ∧ v9 = .int .i64 (q : Int) ∧ Aside0 (Kd.R (Kd.slice 3 (Kd.int .i64)) 34 wr w2.heap.size (fun _ => True) v7 (fulT N l q)) ∧ Aside0 (Below w2.heap.size w2 wr)) (fun _ v _ => Q - (intOf v).toNat)
  case atStart => exact ⟨0, Nat.zero_le _, rfl, ⟨Kd.R_nil _ _ _ _ _⟩, ⟨Below.refl _ _⟩⟩
  case round =>
    obtain ⟨q, hq, rfl, HR, HBr⟩ := hrel
    by_cases hqQ : q < Q
    · have q0 : (0 : Int) ≤ (q : Int) := Int.natCast_nonneg q
      have q1 : (q : Int) < (Q : Int) := Int.ofNat_lt.2 hqQ
      have dq : decide ((q : Int) < (Q : Int)) = true := decide_eq_true q1
      obtain ⟨ad, rfl, g0, g1, g2⟩ := at_T77 HC.out (q : Int) q0 q1
      rw [Int.toNat_natCast] at g0 g1 g2
      have hlt : q < (cellsL N).length := by rw [HQ.out]; exact hqQ
      have hrd : rd_T77 (cellsL N) (q : Int) = (cellsL N)[q] := by
        unfold rd_T77
        rw [Int.toNat_natCast, List.getD_eq_getElem?_getD, List.getElem?_eq_getElem hlt]; rfl
      obtain ⟨k, i, j, hk, hij, hx⟩ := mem_cells.1 (List.getElem_mem hlt)
      rw [hrd, hx] at g0 g1 g2
      change w2.cell? (ad.add (q * 3)) = some (.int .i64 (k : Int)) at g0
      change w2.cell? ⟨(ad.add (q * 3)).block, (ad.add (q * 3)).off + 1, none⟩ = some (.int .i64 (i : Int)) at g1
      change w2.cell? ⟨(ad.add (q * 3)).block, (ad.add (q * 3)).off + 2, none⟩ = some (.int .i64 (j : Int)) at g2
      have c0 := (HBr.out.cell (World.block_lt_of_cell? w2 _ g0)).trans g0
      have c1 := (HBr.out.cell (World.block_lt_of_cell? w2 _ g1)).trans g1
      have c2 := (HBr.out.cell (World.block_lt_of_cell? w2 _ g2)).trans g2
      have G0 := Aside0.mk g0
      have G1 := Aside0.mk g1
      have G2 := Aside0.mk g2
      clear g0 g1 g2
      have hsuc := fulT_succ N l hlt
      rw [hx] at hsuc
      have HSuc := Aside0.mk hsuc
      have HTk := Aside0.mk (fun w1 => HTo.out k i j w1 hk hij)
      have HFk := Aside0.mk (fun w1 => rfull_cell HCol.out hk hij w1)
      have hfc : fulC N l (cel k i j) = fulB (txtB N l k i j) := rfl
      rw [hfc] at HSuc
      clear hsuc hrd hx hlt hfc
      obtain ⟨tx, htx⟩ : ∃ tx, txtB N l k i j = tx := ⟨_, rfl⟩
      rw [htx] at HTk HFk HSuc
      obtain ⟨bb, hbb⟩ : ∃ bb, fulB tx = bb := ⟨_, rfl⟩
      rw [hbb] at HFk HSuc
      clear hbb htx
      cases bb with
      | false =>
        have hS := HSuc.out
        rw [if_neg (by simp), List.append_nil] at hS
        have HS := Aside0.mk hS
        clear hS
        go_wp2_with fail
        refine (HTk.out wr).mono ?_
        rintro e w3 ⟨rfl, hb3⟩
        have HB3 := Aside0.mk hb3
        clear hb3
        go_wp2_with fail
        refine (HFk.out w3).mono ?_
        rintro e w4 ⟨rfl, hb4⟩
        have HB4 := Aside0.mk (below_then HB3.out HB3.out.size hb4)
        clear hb4
        go_wp2_with fail
        go_roundw
        case rel => exact ⟨q + 1, hqQ, by go_num, ⟨by rw [HS.out]; exact Kd.R_below HR.out HB4.out⟩, ⟨below_then HBr.out HBr.out.size HB4.out⟩⟩
        case measure => simp [intOf]; omega
      | true =>
        have hS := HSuc.out
        rw [if_pos rfl] at hS
        have HS := Aside0.mk hS
        clear hS
        go_wp2_with fail
        refine (HTk.out wr).mono ?_
        rintro e w3 ⟨rfl, hb3⟩
        have HB3 := Aside0.mk hb3
        clear hb3
        go_wp2_with fail
        refine (HFk.out w3).mono ?_
        rintro e w4 ⟨rfl, hb4⟩
        have hb5 := below_then HB3.out HB3.out.size hb4
        have d0 : w4.drew.cell? (ad.add (q * 3)) = some (.int .i64 (k : Int)) := (hb5.cell (World.block_lt_of_cell? wr _ c0)).trans c0
        have d1 : w4.drew.cell? ⟨(ad.add (q * 3)).block, (ad.add (q * 3)).off + 1, none⟩ = some (.int .i64 (i : Int)) := (hb5.cell (World.block_lt_of_cell? wr _ c1)).trans c1
        have d2 : w4.drew.cell? ⟨(ad.add (q * 3)).block, (ad.add (q * 3)).off + 2, none⟩ = some (.int .i64 (j : Int)) := (hb5.cell (World.block_lt_of_cell? wr _ c2)).trans c2
        have HB5 := Aside0.mk (below_then HBr.out HBr.out.size (below_drew (show Below wr.heap.size wr w4 from hb5)))
        have HR5 := Aside0.mk (Kd.R_drew (Kd.R_below HR.out hb5))
        have HRR := Aside0.mk (Kd.R_bound HR5.out)
        have HLN : Aside0 ((fulT N l q).length ≤ 800) := ⟨Nat.le_trans (fulT_len N l q) (by rw [HQ.out]; exact hlen)⟩
        clear hb4 hb5 c0 c1 c2 HR HB3
        go_wp2_with fail
        refine wp_region_held_drew (S := fun w' => w'.cell? (ad.add (q * 3)) = some (.int .i64 (k : Int)) ∧ w'.cell? ⟨(ad.add (q * 3)).block, (ad.add (q * 3)).off + 1, none⟩ = some (.int .i64 (i : Int)) ∧ w'.cell? ⟨(ad.add (q * 3)).block, (ad.add (q * 3)).off + 2, none⟩ = some (.int .i64 (j : Int))) (by kernel_rfl) ?_ (fun hHeld => ?_)
        · exact ⟨d0, d1, d2⟩
        refine wpAnyH_takeL (i := 0) (v := ?_) rfl (by kernel_rfl) (by kernel_rfl) (by kernel_rfl) (fun _ _ _ h => h) (Or.inl ⟨by rfl, ?_⟩) hHeld ?_
        rotate_left
        · intro w hSw
          (try dsimp only at hSw)
          go_simp
          all_goals with_reducible rfl
        try simp only [Act.put, List.setIfInBounds_toArray, List.set_cons_zero, List.set_cons_succ]
        refine wpAnyH_takeL (i := 1) (v := ?_) rfl (by kernel_rfl) (by kernel_rfl) (by kernel_rfl) (fun _ _ _ h => h) (Or.inl ⟨by rfl, ?_⟩) hHeld ?_
        rotate_left
        · intro w hSw
          (try dsimp only at hSw)
          go_simp
          all_goals with_reducible rfl
        try simp only [Act.put, List.setIfInBounds_toArray, List.set_cons_zero, List.set_cons_succ]
        refine wpAnyH_takeL (i := 2) (v := ?_) rfl (by kernel_rfl) (by kernel_rfl) (by kernel_rfl) (fun _ _ _ h => h) (Or.inl ⟨by rfl, ?_⟩) hHeld ?_
        rotate_left
        · intro w hSw
          (try dsimp only at hSw)
          go_simp
          all_goals with_reducible rfl
        try simp only [Act.put, List.setIfInBounds_toArray, List.set_cons_zero, List.set_cons_succ]
        refine wpAnyH_takeL (i := 3) (v := ?_) rfl (by kernel_rfl) (by kernel_rfl) (by kernel_rfl) (fun _ _ _ h => h) (Or.inl ⟨by rfl, ?_⟩) hHeld ?_
        rotate_left
        · intro w hSw
          (try dsimp only at hSw)
          go_simp
          all_goals with_reducible rfl
        try simp only [Act.put, List.setIfInBounds_toArray, List.set_cons_zero, List.set_cons_succ]
        refine wpAnyH_takeL (i := 4) (v := ?_) rfl (by kernel_rfl) (by kernel_rfl) (by kernel_rfl) (fun _ _ _ h => h) (Or.inl ⟨by rfl, ?_⟩) hHeld ?_
        rotate_left
        · intro w hSw
          (try dsimp only at hSw)
          go_simp
          all_goals with_reducible rfl
        try simp only [Act.put, List.setIfInBounds_toArray, List.set_cons_zero, List.set_cons_succ]
        refine wpAnyH_takeL (i := 5) (v := ?_) rfl (by kernel_rfl) (by kernel_rfl) (by kernel_rfl) (fun _ _ _ h => h) (Or.inl ⟨by rfl, ?_⟩) hHeld ?_
        rotate_left
        · intro w hSw
          (try dsimp only at hSw)
          go_simp
          all_goals with_reducible rfl
        try simp only [Act.put, List.setIfInBounds_toArray, List.set_cons_zero, List.set_cons_succ]
        refine wpAnyH_takeL (i := 6) (v := ?_) rfl (by kernel_rfl) (by kernel_rfl) (by kernel_rfl) (fun _ _ _ h => h) (Or.inl ⟨by rfl, ?_⟩) hHeld ?_
        rotate_left
        · intro w hSw
          (try dsimp only at hSw)
          go_simp
          all_goals with_reducible rfl
        try simp only [Act.put, List.setIfInBounds_toArray, List.set_cons_zero, List.set_cons_succ]
        refine wpAnyH_takeL (i := 7) (v := ?_) rfl (by kernel_rfl) (by kernel_rfl) (by kernel_rfl) (fun _ _ _ h => h) (Or.inl ⟨by rfl, ?_⟩) hHeld ?_
        rotate_left
        · intro w hSw
          (try dsimp only at hSw)
          go_simp
          all_goals with_reducible rfl
        try simp only [Act.put, List.setIfInBounds_toArray, List.set_cons_zero, List.set_cons_succ]
        refine wpAnyH_takeL (i := 8) (v := ?_) rfl (by kernel_rfl) (by kernel_rfl) (by kernel_rfl) (fun _ _ _ h => h) (Or.inl ⟨by rfl, ?_⟩) hHeld ?_
        rotate_left
        · intro w hSw
          (try dsimp only at hSw)
          go_simp
          all_goals with_reducible rfl
        try simp only [Act.put, List.setIfInBounds_toArray, List.set_cons_zero, List.set_cons_succ]
        refine wpAnyH_takeL (i := 9) (v := ?_) rfl (by kernel_rfl) (by kernel_rfl) (by kernel_rfl) (fun _ _ _ h => h) (Or.inl ⟨by rfl, ?_⟩) hHeld ?_
        rotate_left
        · intro w hSw
          (try dsimp only at hSw)
          go_simp
          all_goals with_reducible rfl
        try simp only [Act.put, List.setIfInBounds_toArray, List.set_cons_zero, List.set_cons_succ]
        refine wpAnyH_takeL (i := 10) (v := ?_) rfl (by kernel_rfl) (by kernel_rfl) (by kernel_rfl) (fun _ _ _ h => h) (Or.inl ⟨by rfl, ?_⟩) hHeld ?_
        rotate_left
        · intro w hSw
          (try dsimp only at hSw)
          go_simp
          all_goals with_reducible rfl
        try simp only [Act.put, List.setIfInBounds_toArray, List.set_cons_zero, List.set_cons_succ]
        refine wpAnyH_takeL (i := 11) (v := ?_) rfl (by kernel_rfl) (by kernel_rfl) (by kernel_rfl) (fun _ _ _ h => h) (Or.inl ⟨by rfl, ?_⟩) hHeld ?_
        rotate_left
        · intro w hSw
          (try dsimp only at hSw)
          go_simp
          all_goals with_reducible rfl
        try simp only [Act.put, List.setIfInBounds_toArray, List.set_cons_zero, List.set_cons_succ]
        refine wpAnyH_takeL (i := 12) (v := ?_) rfl (by kernel_rfl) (by kernel_rfl) (by kernel_rfl) (fun _ _ _ h => h) (Or.inl ⟨by rfl, ?_⟩) hHeld ?_
        rotate_left
        · intro w hSw
          (try dsimp only at hSw)
          go_simp
          all_goals with_reducible rfl
        try simp only [Act.put, List.setIfInBounds_toArray, List.set_cons_zero, List.set_cons_succ]
        refine wpAnyH_takeL (i := 13) (v := ?_) rfl (by kernel_rfl) (by kernel_rfl) (by kernel_rfl) (fun _ _ _ h => h) (Or.inl ⟨by rfl, ?_⟩) hHeld ?_
        rotate_left
        · intro w hSw
          (try dsimp only at hSw)
          go_simp
          all_goals with_reducible rfl
        try simp only [Act.put, List.setIfInBounds_toArray, List.set_cons_zero, List.set_cons_succ]
        refine wpAnyH_takeL (i := 14) (v := ?_) rfl (by kernel_rfl) (by kernel_rfl) (by kernel_rfl) (fun _ _ _ h => h) (Or.inl ⟨by rfl, ?_⟩) hHeld ?_
        rotate_left
        · intro w hSw
          (try dsimp only at hSw)
          go_simp
          all_goals with_reducible rfl
        try simp only [Act.put, List.setIfInBounds_toArray, List.set_cons_zero, List.set_cons_succ]
        refine wpAnyH_takeL (i := 15) (v := ?_) rfl (by kernel_rfl) (by kernel_rfl) (by kernel_rfl) (fun _ _ _ h => h) (Or.inl ⟨by rfl, ?_⟩) hHeld ?_
        rotate_left
        · intro w hSw
          (try dsimp only at hSw)
          go_simp
          all_goals with_reducible rfl
        try simp only [Act.put, List.setIfInBounds_toArray, List.set_cons_zero, List.set_cons_succ]
        refine wpAnyH_ready (rs := [16]) (by kernel_rfl) (by simp) (AllReadyH.consL rfl (fun K hK => ?_) AllReadyH.nil)
        go_simp
        rw [drew_alloc]
        refine hK.out _ _ ?_ (fun hHeld => ?_)
        · exact ⟨cell_alloc _ d0, cell_alloc _ d1, cell_alloc _ d2⟩
        clear hK K
        try simp only [Act.put, List.setIfInBounds_toArray, List.set_cons_zero, List.set_cons_succ]
        refine wpAnyH_ready (rs := [17]) (by kernel_rfl) (by simp) (AllReadyH.consL rfl (fun K hK => ?_) AllReadyH.nil)
        go_simp
        rw [drew_alloc, drew_alloc]
        refine hK.out _ _ ?_ (fun hHeld => ?_)
        · exact ⟨cell_alloc _ (cell_alloc _ d0), cell_alloc _ (cell_alloc _ d1), cell_alloc _ (cell_alloc _ d2)⟩
        clear hK K
        try simp only [Act.put, List.setIfInBounds_toArray, List.set_cons_zero, List.set_cons_succ]
        refine wpAnyH_ready (rs := [18]) (by kernel_rfl) (by simp) (AllReadyH.consL rfl (fun K hK => ?_) AllReadyH.nil)
        refine Kd.R_append_step (Kd.slice 3 (Kd.int .i64)) (w0 := w2) w2.heap.size ?aW (.tmp 32) (.tmp 49) 40 34 (.slice none 0 0) 24 rfl Tryd.underlying40 infoII rfl (by decide) (by omega) u7 (fulT N l q) (cel3 (cel k i j)) [.slice (some ⟨w4.heap.size, 0, none⟩) 3 3] (fun _ => True) (fun q => w4.heap.size ≤ q) ?aV ?aX ?aP ?aK ?aF ?aO ?aB ?aS ?aL ?_
        case aW => rfl
        case aV => rfl
        case aX => rw [size_alloc]; rfl
        case aP => exact ⟨_, rfl, Kd.R_lower (base' := w2.heap.size) (own_i3 w4.drew (k : Int) (i : Int) (j : Int) (Nat.le_refl _)) (show w2.heap.size ≤ w4.drew.heap.size from HB5.out.size)⟩
        case aK => exact (fun q hq => ⟨trivial, fun he => by have := (HRR.out.1 q he.symm).2.2.1; have hs : w4.drew.heap.size = w4.heap.size := rfl; omega⟩)
        case aF => exact (fun k hk => trivial)
        case aO => exact Kd.R_alloc HR5.out _
        case aB => exact below_alloc HB5.out _
        case aS => exact (below_alloc HB5.out _).size
        case aL => have := HLN.out; omega
        intro v9 w9 ho hb hg hat
        rw [← HS.out] at ho
        have HR9 := Aside0.mk ho
        have HB9 := Aside0.mk hb
        clear ho hb hg hat
        refine hK.out _ _ ?_ (fun hHeld => ?_)
        · exact ⟨cell_below HB9.out G0.out, cell_below HB9.out G1.out, cell_below HB9.out G2.out⟩
        clear hK K
        try simp only [Act.put, List.setIfInBounds_toArray, List.set_cons_zero, List.set_cons_succ]
        refine wpAnyH_takeL (i := 19) (v := ?_) rfl (by kernel_rfl) (by kernel_rfl) (by kernel_rfl) (fun _ _ _ h => h) (Or.inl ⟨by rfl, ?_⟩) hHeld ?_
        rotate_left
        · intro w hSw
          (try dsimp only at hSw)
          go_simp
          all_goals with_reducible rfl
        try simp only [Act.put, List.setIfInBounds_toArray, List.set_cons_zero, List.set_cons_succ]
        refine wpAnyH_done (by kernel_rfl) ?_ _
        go_wp2_with fail
        go_roundw
        case rel => exact ⟨q + 1, hqQ, by go_num, HR9, HB9⟩
        case measure => simp [intOf]; omega
    · obtain rfl : q = Q := by omega
      have dq : decide ((q : Int) < (q : Int)) = false := decide_eq_false (by omega)
      have hR := HR.out
      rw [← HQ.out, fulT_all] at hR
      have HR2 := Aside0.mk (Kd.R_lower hR HB2.out.size)
      clear hR
      go_wp2_with fail
      go_ret2
      refine ⟨below_then HB2.out HB2.out.size HBr.out, ?_⟩
      rw [if_pos HE.out]
      exact ⟨_, rfl, by rw [Int.toNat_natCast, HLs.out]; exact HR2.out⟩
set_option maxHeartbeats 6400000 in
set_option maxRecDepth 100000 in
theorem rfull_bad (n : Int) (s : ByteArray) (w : World) (hs : s.size ≤ 1000000) (hE : triE n s ≠ 0) :
    Calls Tryd.prog 27 #[.int .i64 n, .string s] w (FullPost n s w) := by
  have HTr := Aside0.mk (triangle_any n s w hs)
  have HP : Aside0 (∀ w', Below w.heap.size w w' → FullPost n s w (.returned (.tuple #[.slice none 0 0, .int .i64 (triE n s)])) w') := ⟨fun w' hb => ⟨hb, by rw [if_neg hE]⟩⟩
  have hz : (triE n s == 0) = false := beq_eq_false_iff_ne.2 hE
  clear hE
  generalize triE n s = z at *
  go_enter Tryd.func27, Tryd.ntmps27
  go_wp2_with fail
  refine HTr.out.mono ?_
  rintro e w1 ⟨rfl, hb1⟩
  have HB := Aside0.mk hb1
  clear hb1
  go_wp2_with fail
  go_ret2
  exact HP.out _ HB.out
theorem rfull_call (n : Int) (s : ByteArray) (w : World) (hs : s.size ≤ 1000000) : Calls Tryd.prog 27 #[.int .i64 n, .string s] w (FullPost n s w) := by
  by_cases hE : triE n s = 0
  · exact rfull_good n s w hs hE
  · exact rfull_bad n s w hs hE
end Go.Proofs.YtlmgkmmdaecpdaaDoor.Im

namespace Go.Proofs.YtlmgkmmdaecpdaaDoor.Im
open Go.RowKit Go.Proofs.YtlmgkmmdaecpdaaDoorW.PrintWords Go.Proofs.YtlmgkmmdaecpdaaDoorW.PrintLast Go.Proofs.YtlmgkmmdaecpdaaDoorW.PrintMore
attribute [local go_sem] max2_int min2_int max_two min_two max_three min_three max_four min_four
set_option linter.unusedVariables false
set_option linter.unusedSimpArgs false
def pomaderef04_Door.f (k : Nat) (a0 : Int) (a1 : ByteArray) (a2_0 : Int) (a2_1 : Int) (a3_0 : Int) (a3_1 : Int) : Option (Bool) := (pomaderef04_colour.f k a0 a1 a2_0 a2_1).bind fun t243 => ((pomaderef04_colour.f k a0 a1 a3_0 a3_1).bind fun t244 => (if t243 = 48 then (if t244 = 49 then (some true) else (if t243 = 49 then (some (t244 == 48)) else (some false))) else (if t243 = 49 then (some (t244 == 48)) else (some false))))
theorem pomaderef04_Door.mono : ∀ a0 a1 a2 a3 a4 a5 k, LeO (pomaderef04_Door.f k a0 a1 a2 a3 a4 a5) (pomaderef04_Door.f (k + 1) a0 a1 a2 a3 a4 a5) := by
  intro a0 a1 a2 a3 a4 a5 k
  unfold pomaderef04_Door.f
  repeat' first
      | (with_reducible exact pomaderef04_colour.mono _ _ _ _ _)
      | (with_reducible exact LeO.refl _)
      | (with_reducible exact LeO.none _)
      | (with_reducible refine LeO.ite ?_ ?_)
      | (with_reducible refine LeO.bind ?_ (fun _ => ?_))
      | exact pomaderef04_colour.mono _ _ _ _ _
      | exact LeO.none _
      | refine LeO.ite ?_ ?_
      | refine LeO.bind ?_ (fun _ => ?_)
def pomaderef04_Door.T1 : Bool × List (List Nat × List Nat) := (true, [([], []), ([], []), ([], []), ([0, 1, 2], [0, 1, 2]), ([], []), ([], []), ([], []), ([4, 5, 6, 3], [4, 5, 6]), ([3, 7, 0, 1, 2, 3], [3]), ([7, 8, 0, 1, 2, 3, 4, 5, 6, 7, 8], [7])])
def pomaderef04_Door.B1 : List Nat := [0, 0, 0, 7, 0, 0, 0, 127, 255, 511]
theorem pomaderef04_Door.tab1 : rtab .any (opsOf Tryd.f39 1) = pomaderef04_Door.T1 := by kernel_rfl
theorem pomaderef04_Door.bits1 : waitsOk pomaderef04_Door.T1.2 pomaderef04_Door.B1 = true := by kernel_rfl
set_option maxHeartbeats 8000000 in
set_option maxRecDepth 100000 in
theorem pomaderef04_Door.calls (k : Nat) (a0 : Int) (a1 : ByteArray) (a2_0 : Int) (a2_1 : Int) (a3_0 : Int) (a3_1 : Int) (r : Bool) (w : World) (h : pomaderef04_Door.f k a0 a1 a2_0 a2_1 a3_0 a3_1 = some r) :
    Calls Tryd.prog 39 #[.int .i64 a0, .string a1, .agg #[.int .i64 a2_0, .int .i64 a2_1], .agg #[.int .i64 a3_0, .int .i64 a3_1]] w fun e w' => e = .returned (.bool r) ∧ Below w.heap.size w w' := by
  have hu52 := Tryd.underlying52
  have HB := Aside0.mk (Below.refl w.heap.size w)
  have H : ((pomaderef04_colour.f k a0 a1 a2_0 a2_1).bind fun t243 => ((pomaderef04_colour.f k a0 a1 a3_0 a3_1).bind fun t244 => (if t243 = 48 then (if t244 = 49 then (some true) else (if t243 = 49 then (some (t244 == 48)) else (some false))) else (if t243 = 49 then (some (t244 == 48)) else (some false))))) = some r := h
  clear h
  replace H := Option.bind_eq_some_iff.mp H
  obtain ⟨t243, A50, H⟩ := H
  replace H : ((pomaderef04_colour.f k a0 a1 a3_0 a3_1).bind fun t244 => (if t243 = 48 then (if t244 = 49 then (some true) else (if t243 = 49 then (some (t244 == 48)) else (some false))) else (if t243 = 49 then (some (t244 == 48)) else (some false)))) = some r := H
  have A5 := Aside0.mk A50
  clear A50
  replace H := Option.bind_eq_some_iff.mp H
  obtain ⟨t244, A60, H⟩ := H
  replace H : (if t243 = 48 then (if t244 = 49 then (some true) else (if t243 = 49 then (some (t244 == 48)) else (some false))) else (if t243 = 49 then (some (t244 == 48)) else (some false))) = some r := H
  have A6 := Aside0.mk A60
  clear A60
  by_cases c7 : t243 = 48
  · rw [if_pos c7] at H
    have c7b0 : (t243 == 48) = true := beq_iff_eq.mpr c7
    have c7b1 : (t243 != 48) = false := bne_eq_false_iff_eq.mpr c7
    clear c7
    by_cases c8 : t244 = 49
    · rw [if_pos c8] at H
      have c8b0 : (t244 == 49) = true := beq_iff_eq.mpr c8
      have c8b1 : (t244 != 49) = false := bne_eq_false_iff_eq.mpr c8
      clear c8
      obtain rfl := Option.some.inj H
      go_enter Tryd.func39, Tryd.ntmps39
      try go_wp2_with (first | ((with_reducible refine gate_dst (N := 6) rfl ?_); refine box_event ?hg (N := 6) ?hd (cs := #[.int .i64 a2_0, .int .i64 a2_1]) (t := 52) ?hr ?_; (case hd => rfl); (case hg => rfl); (case hr => first | (go_simp; done) | (go_simp; rfl)); intro gb241 hg w9 hbox hb; have n0_ := Aside0.mk (below_step (by repeat (first | (with_reducible first | exact HB.out | apply below_alloc | apply pw_below_drewN | apply below_drew1) | exact HB.out)) hb); have n1_ := Aside0.mk (hbox); have n2_ := Aside0.mk ((by rw [hg]; exact (below_size (by repeat (first | (with_reducible first | exact HB.out | apply below_alloc | apply pw_below_drewN | apply below_drew1) | exact HB.out))) : w.heap.size ≤ gb241)); have n3_ := Aside0.mk ((by rw [hg]; exact (below_size (by repeat (first | (with_reducible first | exact HB.out | apply below_alloc | apply pw_below_drewN | apply below_drew1) | exact HB.out))) : w.heap.size ≤ gb241)); clear HB; have HB := n0_; have BK241 := n1_; have GW241 := n2_; have GE241 := n3_; clear n0_ n1_ n2_ n3_; clear hb hbox hg) | ((with_reducible refine gate_dst (N := 7) rfl ?_); refine box_event ?hg (N := 7) ?hd (cs := #[.int .i64 a3_0, .int .i64 a3_1]) (t := 52) ?hr ?_; (case hd => rfl); (case hg => rfl); (case hr => first | (go_simp; done) | (go_simp; rfl)); intro gb242 hg w10 hbox hb; have n0_ := Aside0.mk (blk_below (g := gb241) (o := .cells #[.int .i64 a2_0, .int .i64 a2_1] 52 (0, 0)) (by (with_reducible repeat (first | refine blk_drewN ?_ _ | refine blk_drew ?_ | refine blk_alloc ?_ _)); exact BK241.out) hb); have n1_ := Aside0.mk (below_step (by repeat (first | (with_reducible first | exact HB.out | apply below_alloc | apply pw_below_drewN | apply below_drew1 | refine below_set ?_ GE241.out) | exact HB.out)) hb); have n2_ := Aside0.mk (hbox); have n3_ := Aside0.mk ((by rw [hg]; exact (below_size (by repeat (first | (with_reducible first | exact HB.out | apply below_alloc | apply pw_below_drewN | apply below_drew1 | refine below_set ?_ GE241.out) | exact HB.out))) : w.heap.size ≤ gb242)); have n4_ := Aside0.mk ((by rw [hg]; exact (below_size (by repeat (first | (with_reducible first | exact HB.out | apply below_alloc | apply pw_below_drewN | apply below_drew1 | refine below_set ?_ GE241.out) | exact HB.out))) : w.heap.size ≤ gb242)); have n5_ := Aside0.mk ((by rw [hg]; exact Nat.ne_of_lt (blk_lt (g := gb241) (o := .cells #[.int .i64 a2_0, .int .i64 a2_1] 52 (0, 0)) (by (with_reducible repeat (first | refine blk_drewN ?_ _ | refine blk_drew ?_ | refine blk_alloc ?_ _)); exact BK241.out)) : gb241 ≠ gb242)); have n6_ := Aside0.mk ((by rw [hg]; exact Nat.ne_of_gt (blk_lt (g := gb241) (o := .cells #[.int .i64 a2_0, .int .i64 a2_1] 52 (0, 0)) (by (with_reducible repeat (first | refine blk_drewN ?_ _ | refine blk_drew ?_ | refine blk_alloc ?_ _)); exact BK241.out)) : gb242 ≠ gb241)); clear BK241; clear HB; have BK241 := n0_; have HB := n1_; have BK242 := n2_; have GW242 := n3_; have GE242 := n4_; have NB241_242 := n5_; have NB242_241 := n6_; clear n0_ n1_ n2_ n3_ n4_ n5_ n6_; clear hb hbox hg))
      have n0_ := Aside0.mk (blk_drew BK241.out)
      have n1_ := Aside0.mk (blk_drew BK242.out)
      have n2_ := Aside0.mk (below_drew1 HB.out)
      clear BK241
      clear BK242
      clear HB
      have BK241 := n0_
      have BK242 := n1_
      have HB := n2_
      clear n0_ n1_ n2_
      refine start_ (n := 10) (S := fun w' => w'.cell? ⟨gb241, 0, none⟩ = some (.int .i64 a2_0) ∧ w'.cell? ⟨gb241, 1, none⟩ = some (.int .i64 a2_1) ∧ w'.cell? ⟨gb242, 0, none⟩ = some (.int .i64 a3_0) ∧ w'.cell? ⟨gb242, 1, none⟩ = some (.int .i64 a3_1)) (ds := []) #[false, false, false, false, false, false, false, false, false, false] (by kernel_rfl) rfl rfl ⟨(blk_cell BK241.out 0).trans rfl, (blk_cell BK241.out 1).trans rfl, (blk_cell BK242.out 0).trans rfl, (blk_cell BK242.out 1).trans rfl⟩ (fun hHeld => ?_); refine with_tabW pomaderef04_Door.tab1 pomaderef04_Door.bits1 (fun HT_ HW_ => ?_)
      generalize w10.drew = w11 at BK241 BK242 HB hHeld ⊢
      refine pure_ (i := 0) (N := some 11) (v := ?_) (a' := ?_) #[true, false, false, false, false, false, false, false, false, false] rfl rfl (any_of HT_.out (by kernel_rfl)) (fun _ _ _ h => h) (Or.inl ⟨by rfl, ?_⟩) ?_ ?_
      rotate_left
      · intro w'
        go_simp
        with_reducible rfl
      rotate_left
      · simp only [Act.put, List.setIfInBounds_toArray, List.set_cons_zero, List.set_cons_succ, i64_w, i32_w]
        rfl
      refine pure_ (i := 1) (N := some 12) (v := ?_) (a' := ?_) #[true, true, false, false, false, false, false, false, false, false] rfl rfl (any_of HT_.out (by kernel_rfl)) (fun _ _ _ h => h) (Or.inl ⟨by rfl, ?_⟩) ?_ ?_
      rotate_left
      · intro w'
        go_simp
        with_reducible rfl
      rotate_left
      · simp only [Act.put, List.setIfInBounds_toArray, List.set_cons_zero, List.set_cons_succ, i64_w, i32_w]
        rfl
      refine pure_ (i := 4) (N := some 15) (v := ?_) (a' := ?_) #[true, true, false, false, true, false, false, false, false, false] rfl rfl (any_of HT_.out (by kernel_rfl)) (fun _ _ _ h => h) (Or.inl ⟨by rfl, ?_⟩) ?_ ?_
      rotate_left
      · intro w'
        go_simp
        with_reducible rfl
      rotate_left
      · simp only [Act.put, List.setIfInBounds_toArray, List.set_cons_zero, List.set_cons_succ, i64_w, i32_w]
        rfl
      refine pure_ (i := 5) (N := some 16) (v := ?_) (a' := ?_) #[true, true, false, false, true, true, false, false, false, false] rfl rfl (any_of HT_.out (by kernel_rfl)) (fun _ _ _ h => h) (Or.inl ⟨by rfl, ?_⟩) ?_ ?_
      rotate_left
      · intro w'
        go_simp
        with_reducible rfl
      rotate_left
      · simp only [Act.put, List.setIfInBounds_toArray, List.set_cons_zero, List.set_cons_succ, i64_w, i32_w]
        rfl
      refine take_ (i := 2) (N := some 13) (v := ?_) (a' := ?_) #[true, true, true, false, true, true, false, false, false, false] rfl rfl (take_ofW HT_.out HW_.out (by kernel_rfl)) (fun _ _ _ h => h) (Or.inl ⟨by rfl, ?_⟩) hHeld ?_ ?_
      rotate_left
      · rintro w' ⟨s0, s1, s2, s3⟩
        go_simp
        with_reducible rfl
      rotate_left
      · simp only [Act.put, List.setIfInBounds_toArray, List.set_cons_zero, List.set_cons_succ, i64_w, i32_w]
        rfl
      refine take_ (i := 6) (N := some 17) (v := ?_) (a' := ?_) #[true, true, true, false, true, true, true, false, false, false] rfl rfl (take_ofW HT_.out HW_.out (by kernel_rfl)) (fun _ _ _ h => h) (Or.inl ⟨by rfl, ?_⟩) hHeld ?_ ?_
      rotate_left
      · rintro w' ⟨s0, s1, s2, s3⟩
        go_simp
        with_reducible rfl
      rotate_left
      · simp only [Act.put, List.setIfInBounds_toArray, List.set_cons_zero, List.set_cons_succ, i64_w, i32_w]
        rfl
      refine one_ (i := 3) (N := some 14) #[true, true, true, true, true, true, true, false, false, false] rfl rfl (one_of HT_.out (by kernel_rfl)) (by decide) (fun K hK => ?_)
      refine goes_ Tryd.func73 (by kernel_rfl) rfl #[.int .i64 a0, .string a1, .agg #[.int .i64 a2_0, .int .i64 a2_1]] (by rfl) rfl rfl (by (try simp only [List.map_toArray, List.map_cons, List.map_nil]); first | done | rfl | (simp only [List.length_drop, List.length_take]; rfl)) ?_
      with_reducible refine (pomaderef04_colour.calls k a0 a1 a2_0 a2_1 t243 _ A5.out).mono ?_
      rintro e w12 ⟨rfl, hb⟩
      refine ⟨_, rfl, ?_⟩
      have n0_ := Aside0.mk (blk_below (g := gb241) (o := .cells #[.int .i64 a2_0, .int .i64 a2_1] 52 (0, 0)) (by (with_reducible repeat (first | refine blk_drewN ?_ _ | refine blk_drew ?_ | refine blk_alloc ?_ _)); exact BK241.out) hb)
      have n1_ := Aside0.mk (blk_below (g := gb242) (o := .cells #[.int .i64 a3_0, .int .i64 a3_1] 52 (0, 0)) (by (with_reducible repeat (first | refine blk_drewN ?_ _ | refine blk_drew ?_ | refine blk_alloc ?_ _)); exact BK242.out) hb)
      have n2_ := Aside0.mk (below_step (by repeat (first | (with_reducible first | exact HB.out | apply below_alloc | apply pw_below_drewN | apply below_drew1 | refine below_set ?_ GE241.out | refine below_set ?_ GE242.out) | exact HB.out)) hb)
      clear BK241
      clear BK242
      clear HB
      have BK241 := n0_
      have BK242 := n1_
      have HB := n2_
      clear n0_ n1_ n2_
      (try clear hb)
      (try clear hb2)
      (try clear hk)
      (try clear hi)
      refine hK.out _ _ ⟨(blk_cell BK241.out 0).trans rfl, (blk_cell BK241.out 1).trans rfl, (blk_cell BK242.out 0).trans rfl, (blk_cell BK242.out 1).trans rfl⟩ (fun hHeld => ?_)
      clear hK K
      refine norm_ (a' := ?_) ?_ ?_
      rotate_left
      · show Act.put _ (some 14) _ = _
        simp only [Act.put, List.setIfInBounds_toArray, List.set_cons_zero, List.set_cons_succ, i64_w, i32_w]
        rfl
      refine one_ (i := 7) (N := some 18) #[true, true, true, true, true, true, true, true, false, false] rfl rfl (one_of HT_.out (by kernel_rfl)) (by decide) (fun K hK => ?_)
      refine goes_ Tryd.func73 (by kernel_rfl) rfl #[.int .i64 a0, .string a1, .agg #[.int .i64 a3_0, .int .i64 a3_1]] (by rfl) rfl rfl (by (try simp only [List.map_toArray, List.map_cons, List.map_nil]); first | done | rfl | (simp only [List.length_drop, List.length_take]; rfl)) ?_
      with_reducible refine (pomaderef04_colour.calls k a0 a1 a3_0 a3_1 t244 _ A6.out).mono ?_
      rintro e w13 ⟨rfl, hb⟩
      refine ⟨_, rfl, ?_⟩
      have n0_ := Aside0.mk (blk_below (g := gb241) (o := .cells #[.int .i64 a2_0, .int .i64 a2_1] 52 (0, 0)) (by (with_reducible repeat (first | refine blk_drewN ?_ _ | refine blk_drew ?_ | refine blk_alloc ?_ _)); exact BK241.out) hb)
      have n1_ := Aside0.mk (blk_below (g := gb242) (o := .cells #[.int .i64 a3_0, .int .i64 a3_1] 52 (0, 0)) (by (with_reducible repeat (first | refine blk_drewN ?_ _ | refine blk_drew ?_ | refine blk_alloc ?_ _)); exact BK242.out) hb)
      have n2_ := Aside0.mk (below_step (by repeat (first | (with_reducible first | exact HB.out | apply below_alloc | apply pw_below_drewN | apply below_drew1 | refine below_set ?_ GE241.out | refine below_set ?_ GE242.out) | exact HB.out)) hb)
      clear BK241
      clear BK242
      clear HB
      have BK241 := n0_
      have BK242 := n1_
      have HB := n2_
      clear n0_ n1_ n2_
      (try clear hb)
      (try clear hb2)
      (try clear hk)
      (try clear hi)
      refine hK.out _ _ ⟨(blk_cell BK241.out 0).trans rfl, (blk_cell BK241.out 1).trans rfl, (blk_cell BK242.out 0).trans rfl, (blk_cell BK242.out 1).trans rfl⟩ (fun hHeld => ?_)
      clear hK K
      refine norm_ (a' := ?_) ?_ ?_
      rotate_left
      · show Act.put _ (some 18) _ = _
        simp only [Act.put, List.setIfInBounds_toArray, List.set_cons_zero, List.set_cons_succ, i64_w, i32_w]
        rfl
      refine pure_ (i := 8) (N := some 9) (v := ?_) (a' := ?_) #[true, true, true, true, true, true, true, true, true, false] rfl rfl (any_of HT_.out (by kernel_rfl)) (fun _ _ _ h => h) (Or.inl ⟨by rfl, ?_⟩) ?_ ?_
      rotate_left
      · intro w'
        go_simp
        with_reducible rfl
      rotate_left
      · simp only [Act.put, List.setIfInBounds_toArray, List.set_cons_zero, List.set_cons_succ, i64_w, i32_w]
        rfl
      refine pure_ (i := 9) (N := some 10) (v := ?_) (a' := ?_) #[true, true, true, true, true, true, true, true, true, true] rfl rfl (any_of HT_.out (by kernel_rfl)) (fun _ _ _ h => h) (Or.inl ⟨by rfl, ?_⟩) ?_ ?_
      rotate_left
      · intro w'
        go_simp
        with_reducible rfl
      rotate_left
      · simp only [Act.put, List.setIfInBounds_toArray, List.set_cons_zero, List.set_cons_succ, i64_w, i32_w]
        rfl
      refine done_ (done_of HT_.out (by kernel_rfl)) ?_
      try go_wp2
      go_ret
      exact ⟨by first | rfl | (simp [errW_none, errW_some] <;> rfl) | (simp [*, errW_none, errW_some] <;> rfl), by repeat (first | (with_reducible first | exact HB.out | apply below_alloc | apply pw_below_drewN | apply below_drew1 | refine below_set ?_ GE241.out | refine below_set ?_ GE242.out) | exact HB.out)⟩
    · rw [if_neg c8] at H
      have c8b0 : (t244 == 49) = false := beq_eq_false_iff_ne.mpr c8
      have c8b1 : (t244 != 49) = true := bne_iff_ne.mpr c8
      by_cases c14 : t243 = 49
      · rw [if_pos c14] at H
        have c14b0 : (t243 == 49) = true := beq_iff_eq.mpr c14
        have c14b1 : (t243 != 49) = false := bne_eq_false_iff_eq.mpr c14
        clear c14
        obtain rfl := Option.some.inj H
        go_enter Tryd.func39, Tryd.ntmps39
        try go_wp2_with (first | ((with_reducible refine gate_dst (N := 6) rfl ?_); refine box_event ?hg (N := 6) ?hd (cs := #[.int .i64 a2_0, .int .i64 a2_1]) (t := 52) ?hr ?_; (case hd => rfl); (case hg => rfl); (case hr => first | (go_simp; done) | (go_simp; rfl)); intro gb241 hg w15 hbox hb; have n0_ := Aside0.mk (below_step (by repeat (first | (with_reducible first | exact HB.out | apply below_alloc | apply pw_below_drewN | apply below_drew1) | exact HB.out)) hb); have n1_ := Aside0.mk (hbox); have n2_ := Aside0.mk ((by rw [hg]; exact (below_size (by repeat (first | (with_reducible first | exact HB.out | apply below_alloc | apply pw_below_drewN | apply below_drew1) | exact HB.out))) : w.heap.size ≤ gb241)); have n3_ := Aside0.mk ((by rw [hg]; exact (below_size (by repeat (first | (with_reducible first | exact HB.out | apply below_alloc | apply pw_below_drewN | apply below_drew1) | exact HB.out))) : w.heap.size ≤ gb241)); clear HB; have HB := n0_; have BK241 := n1_; have GW241 := n2_; have GE241 := n3_; clear n0_ n1_ n2_ n3_; clear hb hbox hg) | ((with_reducible refine gate_dst (N := 7) rfl ?_); refine box_event ?hg (N := 7) ?hd (cs := #[.int .i64 a3_0, .int .i64 a3_1]) (t := 52) ?hr ?_; (case hd => rfl); (case hg => rfl); (case hr => first | (go_simp; done) | (go_simp; rfl)); intro gb242 hg w16 hbox hb; have n0_ := Aside0.mk (blk_below (g := gb241) (o := .cells #[.int .i64 a2_0, .int .i64 a2_1] 52 (0, 0)) (by (with_reducible repeat (first | refine blk_drewN ?_ _ | refine blk_drew ?_ | refine blk_alloc ?_ _)); exact BK241.out) hb); have n1_ := Aside0.mk (below_step (by repeat (first | (with_reducible first | exact HB.out | apply below_alloc | apply pw_below_drewN | apply below_drew1 | refine below_set ?_ GE241.out) | exact HB.out)) hb); have n2_ := Aside0.mk (hbox); have n3_ := Aside0.mk ((by rw [hg]; exact (below_size (by repeat (first | (with_reducible first | exact HB.out | apply below_alloc | apply pw_below_drewN | apply below_drew1 | refine below_set ?_ GE241.out) | exact HB.out))) : w.heap.size ≤ gb242)); have n4_ := Aside0.mk ((by rw [hg]; exact (below_size (by repeat (first | (with_reducible first | exact HB.out | apply below_alloc | apply pw_below_drewN | apply below_drew1 | refine below_set ?_ GE241.out) | exact HB.out))) : w.heap.size ≤ gb242)); have n5_ := Aside0.mk ((by rw [hg]; exact Nat.ne_of_lt (blk_lt (g := gb241) (o := .cells #[.int .i64 a2_0, .int .i64 a2_1] 52 (0, 0)) (by (with_reducible repeat (first | refine blk_drewN ?_ _ | refine blk_drew ?_ | refine blk_alloc ?_ _)); exact BK241.out)) : gb241 ≠ gb242)); have n6_ := Aside0.mk ((by rw [hg]; exact Nat.ne_of_gt (blk_lt (g := gb241) (o := .cells #[.int .i64 a2_0, .int .i64 a2_1] 52 (0, 0)) (by (with_reducible repeat (first | refine blk_drewN ?_ _ | refine blk_drew ?_ | refine blk_alloc ?_ _)); exact BK241.out)) : gb242 ≠ gb241)); clear BK241; clear HB; have BK241 := n0_; have HB := n1_; have BK242 := n2_; have GW242 := n3_; have GE242 := n4_; have NB241_242 := n5_; have NB242_241 := n6_; clear n0_ n1_ n2_ n3_ n4_ n5_ n6_; clear hb hbox hg))
        have n0_ := Aside0.mk (blk_drew BK241.out)
        have n1_ := Aside0.mk (blk_drew BK242.out)
        have n2_ := Aside0.mk (below_drew1 HB.out)
        clear BK241
        clear BK242
        clear HB
        have BK241 := n0_
        have BK242 := n1_
        have HB := n2_
        clear n0_ n1_ n2_
        refine start_ (n := 10) (S := fun w' => w'.cell? ⟨gb241, 0, none⟩ = some (.int .i64 a2_0) ∧ w'.cell? ⟨gb241, 1, none⟩ = some (.int .i64 a2_1) ∧ w'.cell? ⟨gb242, 0, none⟩ = some (.int .i64 a3_0) ∧ w'.cell? ⟨gb242, 1, none⟩ = some (.int .i64 a3_1)) (ds := []) #[false, false, false, false, false, false, false, false, false, false] (by kernel_rfl) rfl rfl ⟨(blk_cell BK241.out 0).trans rfl, (blk_cell BK241.out 1).trans rfl, (blk_cell BK242.out 0).trans rfl, (blk_cell BK242.out 1).trans rfl⟩ (fun hHeld => ?_); refine with_tabW pomaderef04_Door.tab1 pomaderef04_Door.bits1 (fun HT_ HW_ => ?_)
        generalize w16.drew = w17 at BK241 BK242 HB hHeld ⊢
        refine pure_ (i := 0) (N := some 11) (v := ?_) (a' := ?_) #[true, false, false, false, false, false, false, false, false, false] rfl rfl (any_of HT_.out (by kernel_rfl)) (fun _ _ _ h => h) (Or.inl ⟨by rfl, ?_⟩) ?_ ?_
        rotate_left
        · intro w'
          go_simp
          with_reducible rfl
        rotate_left
        · simp only [Act.put, List.setIfInBounds_toArray, List.set_cons_zero, List.set_cons_succ, i64_w, i32_w]
          rfl
        refine pure_ (i := 1) (N := some 12) (v := ?_) (a' := ?_) #[true, true, false, false, false, false, false, false, false, false] rfl rfl (any_of HT_.out (by kernel_rfl)) (fun _ _ _ h => h) (Or.inl ⟨by rfl, ?_⟩) ?_ ?_
        rotate_left
        · intro w'
          go_simp
          with_reducible rfl
        rotate_left
        · simp only [Act.put, List.setIfInBounds_toArray, List.set_cons_zero, List.set_cons_succ, i64_w, i32_w]
          rfl
        refine pure_ (i := 4) (N := some 15) (v := ?_) (a' := ?_) #[true, true, false, false, true, false, false, false, false, false] rfl rfl (any_of HT_.out (by kernel_rfl)) (fun _ _ _ h => h) (Or.inl ⟨by rfl, ?_⟩) ?_ ?_
        rotate_left
        · intro w'
          go_simp
          with_reducible rfl
        rotate_left
        · simp only [Act.put, List.setIfInBounds_toArray, List.set_cons_zero, List.set_cons_succ, i64_w, i32_w]
          rfl
        refine pure_ (i := 5) (N := some 16) (v := ?_) (a' := ?_) #[true, true, false, false, true, true, false, false, false, false] rfl rfl (any_of HT_.out (by kernel_rfl)) (fun _ _ _ h => h) (Or.inl ⟨by rfl, ?_⟩) ?_ ?_
        rotate_left
        · intro w'
          go_simp
          with_reducible rfl
        rotate_left
        · simp only [Act.put, List.setIfInBounds_toArray, List.set_cons_zero, List.set_cons_succ, i64_w, i32_w]
          rfl
        refine take_ (i := 2) (N := some 13) (v := ?_) (a' := ?_) #[true, true, true, false, true, true, false, false, false, false] rfl rfl (take_ofW HT_.out HW_.out (by kernel_rfl)) (fun _ _ _ h => h) (Or.inl ⟨by rfl, ?_⟩) hHeld ?_ ?_
        rotate_left
        · rintro w' ⟨s0, s1, s2, s3⟩
          go_simp
          with_reducible rfl
        rotate_left
        · simp only [Act.put, List.setIfInBounds_toArray, List.set_cons_zero, List.set_cons_succ, i64_w, i32_w]
          rfl
        refine take_ (i := 6) (N := some 17) (v := ?_) (a' := ?_) #[true, true, true, false, true, true, true, false, false, false] rfl rfl (take_ofW HT_.out HW_.out (by kernel_rfl)) (fun _ _ _ h => h) (Or.inl ⟨by rfl, ?_⟩) hHeld ?_ ?_
        rotate_left
        · rintro w' ⟨s0, s1, s2, s3⟩
          go_simp
          with_reducible rfl
        rotate_left
        · simp only [Act.put, List.setIfInBounds_toArray, List.set_cons_zero, List.set_cons_succ, i64_w, i32_w]
          rfl
        refine one_ (i := 3) (N := some 14) #[true, true, true, true, true, true, true, false, false, false] rfl rfl (one_of HT_.out (by kernel_rfl)) (by decide) (fun K hK => ?_)
        refine goes_ Tryd.func73 (by kernel_rfl) rfl #[.int .i64 a0, .string a1, .agg #[.int .i64 a2_0, .int .i64 a2_1]] (by rfl) rfl rfl (by (try simp only [List.map_toArray, List.map_cons, List.map_nil]); first | done | rfl | (simp only [List.length_drop, List.length_take]; rfl)) ?_
        with_reducible refine (pomaderef04_colour.calls k a0 a1 a2_0 a2_1 t243 _ A5.out).mono ?_
        rintro e w18 ⟨rfl, hb⟩
        refine ⟨_, rfl, ?_⟩
        have n0_ := Aside0.mk (blk_below (g := gb241) (o := .cells #[.int .i64 a2_0, .int .i64 a2_1] 52 (0, 0)) (by (with_reducible repeat (first | refine blk_drewN ?_ _ | refine blk_drew ?_ | refine blk_alloc ?_ _)); exact BK241.out) hb)
        have n1_ := Aside0.mk (blk_below (g := gb242) (o := .cells #[.int .i64 a3_0, .int .i64 a3_1] 52 (0, 0)) (by (with_reducible repeat (first | refine blk_drewN ?_ _ | refine blk_drew ?_ | refine blk_alloc ?_ _)); exact BK242.out) hb)
        have n2_ := Aside0.mk (below_step (by repeat (first | (with_reducible first | exact HB.out | apply below_alloc | apply pw_below_drewN | apply below_drew1 | refine below_set ?_ GE241.out | refine below_set ?_ GE242.out) | exact HB.out)) hb)
        clear BK241
        clear BK242
        clear HB
        have BK241 := n0_
        have BK242 := n1_
        have HB := n2_
        clear n0_ n1_ n2_
        (try clear hb)
        (try clear hb2)
        (try clear hk)
        (try clear hi)
        refine hK.out _ _ ⟨(blk_cell BK241.out 0).trans rfl, (blk_cell BK241.out 1).trans rfl, (blk_cell BK242.out 0).trans rfl, (blk_cell BK242.out 1).trans rfl⟩ (fun hHeld => ?_)
        clear hK K
        refine norm_ (a' := ?_) ?_ ?_
        rotate_left
        · show Act.put _ (some 14) _ = _
          simp only [Act.put, List.setIfInBounds_toArray, List.set_cons_zero, List.set_cons_succ, i64_w, i32_w]
          rfl
        refine one_ (i := 7) (N := some 18) #[true, true, true, true, true, true, true, true, false, false] rfl rfl (one_of HT_.out (by kernel_rfl)) (by decide) (fun K hK => ?_)
        refine goes_ Tryd.func73 (by kernel_rfl) rfl #[.int .i64 a0, .string a1, .agg #[.int .i64 a3_0, .int .i64 a3_1]] (by rfl) rfl rfl (by (try simp only [List.map_toArray, List.map_cons, List.map_nil]); first | done | rfl | (simp only [List.length_drop, List.length_take]; rfl)) ?_
        with_reducible refine (pomaderef04_colour.calls k a0 a1 a3_0 a3_1 t244 _ A6.out).mono ?_
        rintro e w19 ⟨rfl, hb⟩
        refine ⟨_, rfl, ?_⟩
        have n0_ := Aside0.mk (blk_below (g := gb241) (o := .cells #[.int .i64 a2_0, .int .i64 a2_1] 52 (0, 0)) (by (with_reducible repeat (first | refine blk_drewN ?_ _ | refine blk_drew ?_ | refine blk_alloc ?_ _)); exact BK241.out) hb)
        have n1_ := Aside0.mk (blk_below (g := gb242) (o := .cells #[.int .i64 a3_0, .int .i64 a3_1] 52 (0, 0)) (by (with_reducible repeat (first | refine blk_drewN ?_ _ | refine blk_drew ?_ | refine blk_alloc ?_ _)); exact BK242.out) hb)
        have n2_ := Aside0.mk (below_step (by repeat (first | (with_reducible first | exact HB.out | apply below_alloc | apply pw_below_drewN | apply below_drew1 | refine below_set ?_ GE241.out | refine below_set ?_ GE242.out) | exact HB.out)) hb)
        clear BK241
        clear BK242
        clear HB
        have BK241 := n0_
        have BK242 := n1_
        have HB := n2_
        clear n0_ n1_ n2_
        (try clear hb)
        (try clear hb2)
        (try clear hk)
        (try clear hi)
        refine hK.out _ _ ⟨(blk_cell BK241.out 0).trans rfl, (blk_cell BK241.out 1).trans rfl, (blk_cell BK242.out 0).trans rfl, (blk_cell BK242.out 1).trans rfl⟩ (fun hHeld => ?_)
        clear hK K
        refine norm_ (a' := ?_) ?_ ?_
        rotate_left
        · show Act.put _ (some 18) _ = _
          simp only [Act.put, List.setIfInBounds_toArray, List.set_cons_zero, List.set_cons_succ, i64_w, i32_w]
          rfl
        refine pure_ (i := 8) (N := some 9) (v := ?_) (a' := ?_) #[true, true, true, true, true, true, true, true, true, false] rfl rfl (any_of HT_.out (by kernel_rfl)) (fun _ _ _ h => h) (Or.inl ⟨by rfl, ?_⟩) ?_ ?_
        rotate_left
        · intro w'
          go_simp
          with_reducible rfl
        rotate_left
        · simp only [Act.put, List.setIfInBounds_toArray, List.set_cons_zero, List.set_cons_succ, i64_w, i32_w]
          rfl
        refine pure_ (i := 9) (N := some 10) (v := ?_) (a' := ?_) #[true, true, true, true, true, true, true, true, true, true] rfl rfl (any_of HT_.out (by kernel_rfl)) (fun _ _ _ h => h) (Or.inl ⟨by rfl, ?_⟩) ?_ ?_
        rotate_left
        · intro w'
          go_simp
          with_reducible rfl
        rotate_left
        · simp only [Act.put, List.setIfInBounds_toArray, List.set_cons_zero, List.set_cons_succ, i64_w, i32_w]
          rfl
        refine done_ (done_of HT_.out (by kernel_rfl)) ?_
        try go_wp2
        go_ret
        exact ⟨by first | rfl | (simp [errW_none, errW_some] <;> rfl) | (simp [*, errW_none, errW_some] <;> rfl), by repeat (first | (with_reducible first | exact HB.out | apply below_alloc | apply pw_below_drewN | apply below_drew1 | refine below_set ?_ GE241.out | refine below_set ?_ GE242.out) | exact HB.out)⟩
      · rw [if_neg c14] at H
        have c14b0 : (t243 == 49) = false := beq_eq_false_iff_ne.mpr c14
        have c14b1 : (t243 != 49) = true := bne_iff_ne.mpr c14
        obtain rfl := Option.some.inj H
        go_enter Tryd.func39, Tryd.ntmps39
        try go_wp2_with (first | ((with_reducible refine gate_dst (N := 6) rfl ?_); refine box_event ?hg (N := 6) ?hd (cs := #[.int .i64 a2_0, .int .i64 a2_1]) (t := 52) ?hr ?_; (case hd => rfl); (case hg => rfl); (case hr => first | (go_simp; done) | (go_simp; rfl)); intro gb241 hg w20 hbox hb; have n0_ := Aside0.mk (below_step (by repeat (first | (with_reducible first | exact HB.out | apply below_alloc | apply pw_below_drewN | apply below_drew1) | exact HB.out)) hb); have n1_ := Aside0.mk (hbox); have n2_ := Aside0.mk ((by rw [hg]; exact (below_size (by repeat (first | (with_reducible first | exact HB.out | apply below_alloc | apply pw_below_drewN | apply below_drew1) | exact HB.out))) : w.heap.size ≤ gb241)); have n3_ := Aside0.mk ((by rw [hg]; exact (below_size (by repeat (first | (with_reducible first | exact HB.out | apply below_alloc | apply pw_below_drewN | apply below_drew1) | exact HB.out))) : w.heap.size ≤ gb241)); clear HB; have HB := n0_; have BK241 := n1_; have GW241 := n2_; have GE241 := n3_; clear n0_ n1_ n2_ n3_; clear hb hbox hg) | ((with_reducible refine gate_dst (N := 7) rfl ?_); refine box_event ?hg (N := 7) ?hd (cs := #[.int .i64 a3_0, .int .i64 a3_1]) (t := 52) ?hr ?_; (case hd => rfl); (case hg => rfl); (case hr => first | (go_simp; done) | (go_simp; rfl)); intro gb242 hg w21 hbox hb; have n0_ := Aside0.mk (blk_below (g := gb241) (o := .cells #[.int .i64 a2_0, .int .i64 a2_1] 52 (0, 0)) (by (with_reducible repeat (first | refine blk_drewN ?_ _ | refine blk_drew ?_ | refine blk_alloc ?_ _)); exact BK241.out) hb); have n1_ := Aside0.mk (below_step (by repeat (first | (with_reducible first | exact HB.out | apply below_alloc | apply pw_below_drewN | apply below_drew1 | refine below_set ?_ GE241.out) | exact HB.out)) hb); have n2_ := Aside0.mk (hbox); have n3_ := Aside0.mk ((by rw [hg]; exact (below_size (by repeat (first | (with_reducible first | exact HB.out | apply below_alloc | apply pw_below_drewN | apply below_drew1 | refine below_set ?_ GE241.out) | exact HB.out))) : w.heap.size ≤ gb242)); have n4_ := Aside0.mk ((by rw [hg]; exact (below_size (by repeat (first | (with_reducible first | exact HB.out | apply below_alloc | apply pw_below_drewN | apply below_drew1 | refine below_set ?_ GE241.out) | exact HB.out))) : w.heap.size ≤ gb242)); have n5_ := Aside0.mk ((by rw [hg]; exact Nat.ne_of_lt (blk_lt (g := gb241) (o := .cells #[.int .i64 a2_0, .int .i64 a2_1] 52 (0, 0)) (by (with_reducible repeat (first | refine blk_drewN ?_ _ | refine blk_drew ?_ | refine blk_alloc ?_ _)); exact BK241.out)) : gb241 ≠ gb242)); have n6_ := Aside0.mk ((by rw [hg]; exact Nat.ne_of_gt (blk_lt (g := gb241) (o := .cells #[.int .i64 a2_0, .int .i64 a2_1] 52 (0, 0)) (by (with_reducible repeat (first | refine blk_drewN ?_ _ | refine blk_drew ?_ | refine blk_alloc ?_ _)); exact BK241.out)) : gb242 ≠ gb241)); clear BK241; clear HB; have BK241 := n0_; have HB := n1_; have BK242 := n2_; have GW242 := n3_; have GE242 := n4_; have NB241_242 := n5_; have NB242_241 := n6_; clear n0_ n1_ n2_ n3_ n4_ n5_ n6_; clear hb hbox hg))
        have n0_ := Aside0.mk (blk_drew BK241.out)
        have n1_ := Aside0.mk (blk_drew BK242.out)
        have n2_ := Aside0.mk (below_drew1 HB.out)
        clear BK241
        clear BK242
        clear HB
        have BK241 := n0_
        have BK242 := n1_
        have HB := n2_
        clear n0_ n1_ n2_
        refine start_ (n := 10) (S := fun w' => w'.cell? ⟨gb241, 0, none⟩ = some (.int .i64 a2_0) ∧ w'.cell? ⟨gb241, 1, none⟩ = some (.int .i64 a2_1) ∧ w'.cell? ⟨gb242, 0, none⟩ = some (.int .i64 a3_0) ∧ w'.cell? ⟨gb242, 1, none⟩ = some (.int .i64 a3_1)) (ds := []) #[false, false, false, false, false, false, false, false, false, false] (by kernel_rfl) rfl rfl ⟨(blk_cell BK241.out 0).trans rfl, (blk_cell BK241.out 1).trans rfl, (blk_cell BK242.out 0).trans rfl, (blk_cell BK242.out 1).trans rfl⟩ (fun hHeld => ?_); refine with_tabW pomaderef04_Door.tab1 pomaderef04_Door.bits1 (fun HT_ HW_ => ?_)
        generalize w21.drew = w22 at BK241 BK242 HB hHeld ⊢
        refine pure_ (i := 0) (N := some 11) (v := ?_) (a' := ?_) #[true, false, false, false, false, false, false, false, false, false] rfl rfl (any_of HT_.out (by kernel_rfl)) (fun _ _ _ h => h) (Or.inl ⟨by rfl, ?_⟩) ?_ ?_
        rotate_left
        · intro w'
          go_simp
          with_reducible rfl
        rotate_left
        · simp only [Act.put, List.setIfInBounds_toArray, List.set_cons_zero, List.set_cons_succ, i64_w, i32_w]
          rfl
        refine pure_ (i := 1) (N := some 12) (v := ?_) (a' := ?_) #[true, true, false, false, false, false, false, false, false, false] rfl rfl (any_of HT_.out (by kernel_rfl)) (fun _ _ _ h => h) (Or.inl ⟨by rfl, ?_⟩) ?_ ?_
        rotate_left
        · intro w'
          go_simp
          with_reducible rfl
        rotate_left
        · simp only [Act.put, List.setIfInBounds_toArray, List.set_cons_zero, List.set_cons_succ, i64_w, i32_w]
          rfl
        refine pure_ (i := 4) (N := some 15) (v := ?_) (a' := ?_) #[true, true, false, false, true, false, false, false, false, false] rfl rfl (any_of HT_.out (by kernel_rfl)) (fun _ _ _ h => h) (Or.inl ⟨by rfl, ?_⟩) ?_ ?_
        rotate_left
        · intro w'
          go_simp
          with_reducible rfl
        rotate_left
        · simp only [Act.put, List.setIfInBounds_toArray, List.set_cons_zero, List.set_cons_succ, i64_w, i32_w]
          rfl
        refine pure_ (i := 5) (N := some 16) (v := ?_) (a' := ?_) #[true, true, false, false, true, true, false, false, false, false] rfl rfl (any_of HT_.out (by kernel_rfl)) (fun _ _ _ h => h) (Or.inl ⟨by rfl, ?_⟩) ?_ ?_
        rotate_left
        · intro w'
          go_simp
          with_reducible rfl
        rotate_left
        · simp only [Act.put, List.setIfInBounds_toArray, List.set_cons_zero, List.set_cons_succ, i64_w, i32_w]
          rfl
        refine take_ (i := 2) (N := some 13) (v := ?_) (a' := ?_) #[true, true, true, false, true, true, false, false, false, false] rfl rfl (take_ofW HT_.out HW_.out (by kernel_rfl)) (fun _ _ _ h => h) (Or.inl ⟨by rfl, ?_⟩) hHeld ?_ ?_
        rotate_left
        · rintro w' ⟨s0, s1, s2, s3⟩
          go_simp
          with_reducible rfl
        rotate_left
        · simp only [Act.put, List.setIfInBounds_toArray, List.set_cons_zero, List.set_cons_succ, i64_w, i32_w]
          rfl
        refine take_ (i := 6) (N := some 17) (v := ?_) (a' := ?_) #[true, true, true, false, true, true, true, false, false, false] rfl rfl (take_ofW HT_.out HW_.out (by kernel_rfl)) (fun _ _ _ h => h) (Or.inl ⟨by rfl, ?_⟩) hHeld ?_ ?_
        rotate_left
        · rintro w' ⟨s0, s1, s2, s3⟩
          go_simp
          with_reducible rfl
        rotate_left
        · simp only [Act.put, List.setIfInBounds_toArray, List.set_cons_zero, List.set_cons_succ, i64_w, i32_w]
          rfl
        refine one_ (i := 3) (N := some 14) #[true, true, true, true, true, true, true, false, false, false] rfl rfl (one_of HT_.out (by kernel_rfl)) (by decide) (fun K hK => ?_)
        refine goes_ Tryd.func73 (by kernel_rfl) rfl #[.int .i64 a0, .string a1, .agg #[.int .i64 a2_0, .int .i64 a2_1]] (by rfl) rfl rfl (by (try simp only [List.map_toArray, List.map_cons, List.map_nil]); first | done | rfl | (simp only [List.length_drop, List.length_take]; rfl)) ?_
        with_reducible refine (pomaderef04_colour.calls k a0 a1 a2_0 a2_1 t243 _ A5.out).mono ?_
        rintro e w23 ⟨rfl, hb⟩
        refine ⟨_, rfl, ?_⟩
        have n0_ := Aside0.mk (blk_below (g := gb241) (o := .cells #[.int .i64 a2_0, .int .i64 a2_1] 52 (0, 0)) (by (with_reducible repeat (first | refine blk_drewN ?_ _ | refine blk_drew ?_ | refine blk_alloc ?_ _)); exact BK241.out) hb)
        have n1_ := Aside0.mk (blk_below (g := gb242) (o := .cells #[.int .i64 a3_0, .int .i64 a3_1] 52 (0, 0)) (by (with_reducible repeat (first | refine blk_drewN ?_ _ | refine blk_drew ?_ | refine blk_alloc ?_ _)); exact BK242.out) hb)
        have n2_ := Aside0.mk (below_step (by repeat (first | (with_reducible first | exact HB.out | apply below_alloc | apply pw_below_drewN | apply below_drew1 | refine below_set ?_ GE241.out | refine below_set ?_ GE242.out) | exact HB.out)) hb)
        clear BK241
        clear BK242
        clear HB
        have BK241 := n0_
        have BK242 := n1_
        have HB := n2_
        clear n0_ n1_ n2_
        (try clear hb)
        (try clear hb2)
        (try clear hk)
        (try clear hi)
        refine hK.out _ _ ⟨(blk_cell BK241.out 0).trans rfl, (blk_cell BK241.out 1).trans rfl, (blk_cell BK242.out 0).trans rfl, (blk_cell BK242.out 1).trans rfl⟩ (fun hHeld => ?_)
        clear hK K
        refine norm_ (a' := ?_) ?_ ?_
        rotate_left
        · show Act.put _ (some 14) _ = _
          simp only [Act.put, List.setIfInBounds_toArray, List.set_cons_zero, List.set_cons_succ, i64_w, i32_w]
          rfl
        refine one_ (i := 7) (N := some 18) #[true, true, true, true, true, true, true, true, false, false] rfl rfl (one_of HT_.out (by kernel_rfl)) (by decide) (fun K hK => ?_)
        refine goes_ Tryd.func73 (by kernel_rfl) rfl #[.int .i64 a0, .string a1, .agg #[.int .i64 a3_0, .int .i64 a3_1]] (by rfl) rfl rfl (by (try simp only [List.map_toArray, List.map_cons, List.map_nil]); first | done | rfl | (simp only [List.length_drop, List.length_take]; rfl)) ?_
        with_reducible refine (pomaderef04_colour.calls k a0 a1 a3_0 a3_1 t244 _ A6.out).mono ?_
        rintro e w24 ⟨rfl, hb⟩
        refine ⟨_, rfl, ?_⟩
        have n0_ := Aside0.mk (blk_below (g := gb241) (o := .cells #[.int .i64 a2_0, .int .i64 a2_1] 52 (0, 0)) (by (with_reducible repeat (first | refine blk_drewN ?_ _ | refine blk_drew ?_ | refine blk_alloc ?_ _)); exact BK241.out) hb)
        have n1_ := Aside0.mk (blk_below (g := gb242) (o := .cells #[.int .i64 a3_0, .int .i64 a3_1] 52 (0, 0)) (by (with_reducible repeat (first | refine blk_drewN ?_ _ | refine blk_drew ?_ | refine blk_alloc ?_ _)); exact BK242.out) hb)
        have n2_ := Aside0.mk (below_step (by repeat (first | (with_reducible first | exact HB.out | apply below_alloc | apply pw_below_drewN | apply below_drew1 | refine below_set ?_ GE241.out | refine below_set ?_ GE242.out) | exact HB.out)) hb)
        clear BK241
        clear BK242
        clear HB
        have BK241 := n0_
        have BK242 := n1_
        have HB := n2_
        clear n0_ n1_ n2_
        (try clear hb)
        (try clear hb2)
        (try clear hk)
        (try clear hi)
        refine hK.out _ _ ⟨(blk_cell BK241.out 0).trans rfl, (blk_cell BK241.out 1).trans rfl, (blk_cell BK242.out 0).trans rfl, (blk_cell BK242.out 1).trans rfl⟩ (fun hHeld => ?_)
        clear hK K
        refine norm_ (a' := ?_) ?_ ?_
        rotate_left
        · show Act.put _ (some 18) _ = _
          simp only [Act.put, List.setIfInBounds_toArray, List.set_cons_zero, List.set_cons_succ, i64_w, i32_w]
          rfl
        refine pure_ (i := 8) (N := some 9) (v := ?_) (a' := ?_) #[true, true, true, true, true, true, true, true, true, false] rfl rfl (any_of HT_.out (by kernel_rfl)) (fun _ _ _ h => h) (Or.inl ⟨by rfl, ?_⟩) ?_ ?_
        rotate_left
        · intro w'
          go_simp
          with_reducible rfl
        rotate_left
        · simp only [Act.put, List.setIfInBounds_toArray, List.set_cons_zero, List.set_cons_succ, i64_w, i32_w]
          rfl
        refine pure_ (i := 9) (N := some 10) (v := ?_) (a' := ?_) #[true, true, true, true, true, true, true, true, true, true] rfl rfl (any_of HT_.out (by kernel_rfl)) (fun _ _ _ h => h) (Or.inl ⟨by rfl, ?_⟩) ?_ ?_
        rotate_left
        · intro w'
          go_simp
          with_reducible rfl
        rotate_left
        · simp only [Act.put, List.setIfInBounds_toArray, List.set_cons_zero, List.set_cons_succ, i64_w, i32_w]
          rfl
        refine done_ (done_of HT_.out (by kernel_rfl)) ?_
        try go_wp2
        go_ret
        exact ⟨by first | rfl | (simp [errW_none, errW_some] <;> rfl) | (simp [*, errW_none, errW_some] <;> rfl), by repeat (first | (with_reducible first | exact HB.out | apply below_alloc | apply pw_below_drewN | apply below_drew1 | refine below_set ?_ GE241.out | refine below_set ?_ GE242.out) | exact HB.out)⟩
  · rw [if_neg c7] at H
    have c7b0 : (t243 == 48) = false := beq_eq_false_iff_ne.mpr c7
    have c7b1 : (t243 != 48) = true := bne_iff_ne.mpr c7
    by_cases c25 : t243 = 49
    · rw [if_pos c25] at H
      have c25b0 : (t243 == 49) = true := beq_iff_eq.mpr c25
      have c25b1 : (t243 != 49) = false := bne_eq_false_iff_eq.mpr c25
      clear c25
      obtain rfl := Option.some.inj H
      go_enter Tryd.func39, Tryd.ntmps39
      try go_wp2_with (first | ((with_reducible refine gate_dst (N := 6) rfl ?_); refine box_event ?hg (N := 6) ?hd (cs := #[.int .i64 a2_0, .int .i64 a2_1]) (t := 52) ?hr ?_; (case hd => rfl); (case hg => rfl); (case hr => first | (go_simp; done) | (go_simp; rfl)); intro gb241 hg w26 hbox hb; have n0_ := Aside0.mk (below_step (by repeat (first | (with_reducible first | exact HB.out | apply below_alloc | apply pw_below_drewN | apply below_drew1) | exact HB.out)) hb); have n1_ := Aside0.mk (hbox); have n2_ := Aside0.mk ((by rw [hg]; exact (below_size (by repeat (first | (with_reducible first | exact HB.out | apply below_alloc | apply pw_below_drewN | apply below_drew1) | exact HB.out))) : w.heap.size ≤ gb241)); have n3_ := Aside0.mk ((by rw [hg]; exact (below_size (by repeat (first | (with_reducible first | exact HB.out | apply below_alloc | apply pw_below_drewN | apply below_drew1) | exact HB.out))) : w.heap.size ≤ gb241)); clear HB; have HB := n0_; have BK241 := n1_; have GW241 := n2_; have GE241 := n3_; clear n0_ n1_ n2_ n3_; clear hb hbox hg) | ((with_reducible refine gate_dst (N := 7) rfl ?_); refine box_event ?hg (N := 7) ?hd (cs := #[.int .i64 a3_0, .int .i64 a3_1]) (t := 52) ?hr ?_; (case hd => rfl); (case hg => rfl); (case hr => first | (go_simp; done) | (go_simp; rfl)); intro gb242 hg w27 hbox hb; have n0_ := Aside0.mk (blk_below (g := gb241) (o := .cells #[.int .i64 a2_0, .int .i64 a2_1] 52 (0, 0)) (by (with_reducible repeat (first | refine blk_drewN ?_ _ | refine blk_drew ?_ | refine blk_alloc ?_ _)); exact BK241.out) hb); have n1_ := Aside0.mk (below_step (by repeat (first | (with_reducible first | exact HB.out | apply below_alloc | apply pw_below_drewN | apply below_drew1 | refine below_set ?_ GE241.out) | exact HB.out)) hb); have n2_ := Aside0.mk (hbox); have n3_ := Aside0.mk ((by rw [hg]; exact (below_size (by repeat (first | (with_reducible first | exact HB.out | apply below_alloc | apply pw_below_drewN | apply below_drew1 | refine below_set ?_ GE241.out) | exact HB.out))) : w.heap.size ≤ gb242)); have n4_ := Aside0.mk ((by rw [hg]; exact (below_size (by repeat (first | (with_reducible first | exact HB.out | apply below_alloc | apply pw_below_drewN | apply below_drew1 | refine below_set ?_ GE241.out) | exact HB.out))) : w.heap.size ≤ gb242)); have n5_ := Aside0.mk ((by rw [hg]; exact Nat.ne_of_lt (blk_lt (g := gb241) (o := .cells #[.int .i64 a2_0, .int .i64 a2_1] 52 (0, 0)) (by (with_reducible repeat (first | refine blk_drewN ?_ _ | refine blk_drew ?_ | refine blk_alloc ?_ _)); exact BK241.out)) : gb241 ≠ gb242)); have n6_ := Aside0.mk ((by rw [hg]; exact Nat.ne_of_gt (blk_lt (g := gb241) (o := .cells #[.int .i64 a2_0, .int .i64 a2_1] 52 (0, 0)) (by (with_reducible repeat (first | refine blk_drewN ?_ _ | refine blk_drew ?_ | refine blk_alloc ?_ _)); exact BK241.out)) : gb242 ≠ gb241)); clear BK241; clear HB; have BK241 := n0_; have HB := n1_; have BK242 := n2_; have GW242 := n3_; have GE242 := n4_; have NB241_242 := n5_; have NB242_241 := n6_; clear n0_ n1_ n2_ n3_ n4_ n5_ n6_; clear hb hbox hg))
      have n0_ := Aside0.mk (blk_drew BK241.out)
      have n1_ := Aside0.mk (blk_drew BK242.out)
      have n2_ := Aside0.mk (below_drew1 HB.out)
      clear BK241
      clear BK242
      clear HB
      have BK241 := n0_
      have BK242 := n1_
      have HB := n2_
      clear n0_ n1_ n2_
      refine start_ (n := 10) (S := fun w' => w'.cell? ⟨gb241, 0, none⟩ = some (.int .i64 a2_0) ∧ w'.cell? ⟨gb241, 1, none⟩ = some (.int .i64 a2_1) ∧ w'.cell? ⟨gb242, 0, none⟩ = some (.int .i64 a3_0) ∧ w'.cell? ⟨gb242, 1, none⟩ = some (.int .i64 a3_1)) (ds := []) #[false, false, false, false, false, false, false, false, false, false] (by kernel_rfl) rfl rfl ⟨(blk_cell BK241.out 0).trans rfl, (blk_cell BK241.out 1).trans rfl, (blk_cell BK242.out 0).trans rfl, (blk_cell BK242.out 1).trans rfl⟩ (fun hHeld => ?_); refine with_tabW pomaderef04_Door.tab1 pomaderef04_Door.bits1 (fun HT_ HW_ => ?_)
      generalize w27.drew = w28 at BK241 BK242 HB hHeld ⊢
      refine pure_ (i := 0) (N := some 11) (v := ?_) (a' := ?_) #[true, false, false, false, false, false, false, false, false, false] rfl rfl (any_of HT_.out (by kernel_rfl)) (fun _ _ _ h => h) (Or.inl ⟨by rfl, ?_⟩) ?_ ?_
      rotate_left
      · intro w'
        go_simp
        with_reducible rfl
      rotate_left
      · simp only [Act.put, List.setIfInBounds_toArray, List.set_cons_zero, List.set_cons_succ, i64_w, i32_w]
        rfl
      refine pure_ (i := 1) (N := some 12) (v := ?_) (a' := ?_) #[true, true, false, false, false, false, false, false, false, false] rfl rfl (any_of HT_.out (by kernel_rfl)) (fun _ _ _ h => h) (Or.inl ⟨by rfl, ?_⟩) ?_ ?_
      rotate_left
      · intro w'
        go_simp
        with_reducible rfl
      rotate_left
      · simp only [Act.put, List.setIfInBounds_toArray, List.set_cons_zero, List.set_cons_succ, i64_w, i32_w]
        rfl
      refine pure_ (i := 4) (N := some 15) (v := ?_) (a' := ?_) #[true, true, false, false, true, false, false, false, false, false] rfl rfl (any_of HT_.out (by kernel_rfl)) (fun _ _ _ h => h) (Or.inl ⟨by rfl, ?_⟩) ?_ ?_
      rotate_left
      · intro w'
        go_simp
        with_reducible rfl
      rotate_left
      · simp only [Act.put, List.setIfInBounds_toArray, List.set_cons_zero, List.set_cons_succ, i64_w, i32_w]
        rfl
      refine pure_ (i := 5) (N := some 16) (v := ?_) (a' := ?_) #[true, true, false, false, true, true, false, false, false, false] rfl rfl (any_of HT_.out (by kernel_rfl)) (fun _ _ _ h => h) (Or.inl ⟨by rfl, ?_⟩) ?_ ?_
      rotate_left
      · intro w'
        go_simp
        with_reducible rfl
      rotate_left
      · simp only [Act.put, List.setIfInBounds_toArray, List.set_cons_zero, List.set_cons_succ, i64_w, i32_w]
        rfl
      refine take_ (i := 2) (N := some 13) (v := ?_) (a' := ?_) #[true, true, true, false, true, true, false, false, false, false] rfl rfl (take_ofW HT_.out HW_.out (by kernel_rfl)) (fun _ _ _ h => h) (Or.inl ⟨by rfl, ?_⟩) hHeld ?_ ?_
      rotate_left
      · rintro w' ⟨s0, s1, s2, s3⟩
        go_simp
        with_reducible rfl
      rotate_left
      · simp only [Act.put, List.setIfInBounds_toArray, List.set_cons_zero, List.set_cons_succ, i64_w, i32_w]
        rfl
      refine take_ (i := 6) (N := some 17) (v := ?_) (a' := ?_) #[true, true, true, false, true, true, true, false, false, false] rfl rfl (take_ofW HT_.out HW_.out (by kernel_rfl)) (fun _ _ _ h => h) (Or.inl ⟨by rfl, ?_⟩) hHeld ?_ ?_
      rotate_left
      · rintro w' ⟨s0, s1, s2, s3⟩
        go_simp
        with_reducible rfl
      rotate_left
      · simp only [Act.put, List.setIfInBounds_toArray, List.set_cons_zero, List.set_cons_succ, i64_w, i32_w]
        rfl
      refine one_ (i := 3) (N := some 14) #[true, true, true, true, true, true, true, false, false, false] rfl rfl (one_of HT_.out (by kernel_rfl)) (by decide) (fun K hK => ?_)
      refine goes_ Tryd.func73 (by kernel_rfl) rfl #[.int .i64 a0, .string a1, .agg #[.int .i64 a2_0, .int .i64 a2_1]] (by rfl) rfl rfl (by (try simp only [List.map_toArray, List.map_cons, List.map_nil]); first | done | rfl | (simp only [List.length_drop, List.length_take]; rfl)) ?_
      with_reducible refine (pomaderef04_colour.calls k a0 a1 a2_0 a2_1 t243 _ A5.out).mono ?_
      rintro e w29 ⟨rfl, hb⟩
      refine ⟨_, rfl, ?_⟩
      have n0_ := Aside0.mk (blk_below (g := gb241) (o := .cells #[.int .i64 a2_0, .int .i64 a2_1] 52 (0, 0)) (by (with_reducible repeat (first | refine blk_drewN ?_ _ | refine blk_drew ?_ | refine blk_alloc ?_ _)); exact BK241.out) hb)
      have n1_ := Aside0.mk (blk_below (g := gb242) (o := .cells #[.int .i64 a3_0, .int .i64 a3_1] 52 (0, 0)) (by (with_reducible repeat (first | refine blk_drewN ?_ _ | refine blk_drew ?_ | refine blk_alloc ?_ _)); exact BK242.out) hb)
      have n2_ := Aside0.mk (below_step (by repeat (first | (with_reducible first | exact HB.out | apply below_alloc | apply pw_below_drewN | apply below_drew1 | refine below_set ?_ GE241.out | refine below_set ?_ GE242.out) | exact HB.out)) hb)
      clear BK241
      clear BK242
      clear HB
      have BK241 := n0_
      have BK242 := n1_
      have HB := n2_
      clear n0_ n1_ n2_
      (try clear hb)
      (try clear hb2)
      (try clear hk)
      (try clear hi)
      refine hK.out _ _ ⟨(blk_cell BK241.out 0).trans rfl, (blk_cell BK241.out 1).trans rfl, (blk_cell BK242.out 0).trans rfl, (blk_cell BK242.out 1).trans rfl⟩ (fun hHeld => ?_)
      clear hK K
      refine norm_ (a' := ?_) ?_ ?_
      rotate_left
      · show Act.put _ (some 14) _ = _
        simp only [Act.put, List.setIfInBounds_toArray, List.set_cons_zero, List.set_cons_succ, i64_w, i32_w]
        rfl
      refine one_ (i := 7) (N := some 18) #[true, true, true, true, true, true, true, true, false, false] rfl rfl (one_of HT_.out (by kernel_rfl)) (by decide) (fun K hK => ?_)
      refine goes_ Tryd.func73 (by kernel_rfl) rfl #[.int .i64 a0, .string a1, .agg #[.int .i64 a3_0, .int .i64 a3_1]] (by rfl) rfl rfl (by (try simp only [List.map_toArray, List.map_cons, List.map_nil]); first | done | rfl | (simp only [List.length_drop, List.length_take]; rfl)) ?_
      with_reducible refine (pomaderef04_colour.calls k a0 a1 a3_0 a3_1 t244 _ A6.out).mono ?_
      rintro e w30 ⟨rfl, hb⟩
      refine ⟨_, rfl, ?_⟩
      have n0_ := Aside0.mk (blk_below (g := gb241) (o := .cells #[.int .i64 a2_0, .int .i64 a2_1] 52 (0, 0)) (by (with_reducible repeat (first | refine blk_drewN ?_ _ | refine blk_drew ?_ | refine blk_alloc ?_ _)); exact BK241.out) hb)
      have n1_ := Aside0.mk (blk_below (g := gb242) (o := .cells #[.int .i64 a3_0, .int .i64 a3_1] 52 (0, 0)) (by (with_reducible repeat (first | refine blk_drewN ?_ _ | refine blk_drew ?_ | refine blk_alloc ?_ _)); exact BK242.out) hb)
      have n2_ := Aside0.mk (below_step (by repeat (first | (with_reducible first | exact HB.out | apply below_alloc | apply pw_below_drewN | apply below_drew1 | refine below_set ?_ GE241.out | refine below_set ?_ GE242.out) | exact HB.out)) hb)
      clear BK241
      clear BK242
      clear HB
      have BK241 := n0_
      have BK242 := n1_
      have HB := n2_
      clear n0_ n1_ n2_
      (try clear hb)
      (try clear hb2)
      (try clear hk)
      (try clear hi)
      refine hK.out _ _ ⟨(blk_cell BK241.out 0).trans rfl, (blk_cell BK241.out 1).trans rfl, (blk_cell BK242.out 0).trans rfl, (blk_cell BK242.out 1).trans rfl⟩ (fun hHeld => ?_)
      clear hK K
      refine norm_ (a' := ?_) ?_ ?_
      rotate_left
      · show Act.put _ (some 18) _ = _
        simp only [Act.put, List.setIfInBounds_toArray, List.set_cons_zero, List.set_cons_succ, i64_w, i32_w]
        rfl
      refine pure_ (i := 8) (N := some 9) (v := ?_) (a' := ?_) #[true, true, true, true, true, true, true, true, true, false] rfl rfl (any_of HT_.out (by kernel_rfl)) (fun _ _ _ h => h) (Or.inl ⟨by rfl, ?_⟩) ?_ ?_
      rotate_left
      · intro w'
        go_simp
        with_reducible rfl
      rotate_left
      · simp only [Act.put, List.setIfInBounds_toArray, List.set_cons_zero, List.set_cons_succ, i64_w, i32_w]
        rfl
      refine pure_ (i := 9) (N := some 10) (v := ?_) (a' := ?_) #[true, true, true, true, true, true, true, true, true, true] rfl rfl (any_of HT_.out (by kernel_rfl)) (fun _ _ _ h => h) (Or.inl ⟨by rfl, ?_⟩) ?_ ?_
      rotate_left
      · intro w'
        go_simp
        with_reducible rfl
      rotate_left
      · simp only [Act.put, List.setIfInBounds_toArray, List.set_cons_zero, List.set_cons_succ, i64_w, i32_w]
        rfl
      refine done_ (done_of HT_.out (by kernel_rfl)) ?_
      try go_wp2
      go_ret
      exact ⟨by first | rfl | (simp [errW_none, errW_some] <;> rfl) | (simp [*, errW_none, errW_some] <;> rfl), by repeat (first | (with_reducible first | exact HB.out | apply below_alloc | apply pw_below_drewN | apply below_drew1 | refine below_set ?_ GE241.out | refine below_set ?_ GE242.out) | exact HB.out)⟩
    · rw [if_neg c25] at H
      have c25b0 : (t243 == 49) = false := beq_eq_false_iff_ne.mpr c25
      have c25b1 : (t243 != 49) = true := bne_iff_ne.mpr c25
      obtain rfl := Option.some.inj H
      go_enter Tryd.func39, Tryd.ntmps39
      try go_wp2_with (first | ((with_reducible refine gate_dst (N := 6) rfl ?_); refine box_event ?hg (N := 6) ?hd (cs := #[.int .i64 a2_0, .int .i64 a2_1]) (t := 52) ?hr ?_; (case hd => rfl); (case hg => rfl); (case hr => first | (go_simp; done) | (go_simp; rfl)); intro gb241 hg w31 hbox hb; have n0_ := Aside0.mk (below_step (by repeat (first | (with_reducible first | exact HB.out | apply below_alloc | apply pw_below_drewN | apply below_drew1) | exact HB.out)) hb); have n1_ := Aside0.mk (hbox); have n2_ := Aside0.mk ((by rw [hg]; exact (below_size (by repeat (first | (with_reducible first | exact HB.out | apply below_alloc | apply pw_below_drewN | apply below_drew1) | exact HB.out))) : w.heap.size ≤ gb241)); have n3_ := Aside0.mk ((by rw [hg]; exact (below_size (by repeat (first | (with_reducible first | exact HB.out | apply below_alloc | apply pw_below_drewN | apply below_drew1) | exact HB.out))) : w.heap.size ≤ gb241)); clear HB; have HB := n0_; have BK241 := n1_; have GW241 := n2_; have GE241 := n3_; clear n0_ n1_ n2_ n3_; clear hb hbox hg) | ((with_reducible refine gate_dst (N := 7) rfl ?_); refine box_event ?hg (N := 7) ?hd (cs := #[.int .i64 a3_0, .int .i64 a3_1]) (t := 52) ?hr ?_; (case hd => rfl); (case hg => rfl); (case hr => first | (go_simp; done) | (go_simp; rfl)); intro gb242 hg w32 hbox hb; have n0_ := Aside0.mk (blk_below (g := gb241) (o := .cells #[.int .i64 a2_0, .int .i64 a2_1] 52 (0, 0)) (by (with_reducible repeat (first | refine blk_drewN ?_ _ | refine blk_drew ?_ | refine blk_alloc ?_ _)); exact BK241.out) hb); have n1_ := Aside0.mk (below_step (by repeat (first | (with_reducible first | exact HB.out | apply below_alloc | apply pw_below_drewN | apply below_drew1 | refine below_set ?_ GE241.out) | exact HB.out)) hb); have n2_ := Aside0.mk (hbox); have n3_ := Aside0.mk ((by rw [hg]; exact (below_size (by repeat (first | (with_reducible first | exact HB.out | apply below_alloc | apply pw_below_drewN | apply below_drew1 | refine below_set ?_ GE241.out) | exact HB.out))) : w.heap.size ≤ gb242)); have n4_ := Aside0.mk ((by rw [hg]; exact (below_size (by repeat (first | (with_reducible first | exact HB.out | apply below_alloc | apply pw_below_drewN | apply below_drew1 | refine below_set ?_ GE241.out) | exact HB.out))) : w.heap.size ≤ gb242)); have n5_ := Aside0.mk ((by rw [hg]; exact Nat.ne_of_lt (blk_lt (g := gb241) (o := .cells #[.int .i64 a2_0, .int .i64 a2_1] 52 (0, 0)) (by (with_reducible repeat (first | refine blk_drewN ?_ _ | refine blk_drew ?_ | refine blk_alloc ?_ _)); exact BK241.out)) : gb241 ≠ gb242)); have n6_ := Aside0.mk ((by rw [hg]; exact Nat.ne_of_gt (blk_lt (g := gb241) (o := .cells #[.int .i64 a2_0, .int .i64 a2_1] 52 (0, 0)) (by (with_reducible repeat (first | refine blk_drewN ?_ _ | refine blk_drew ?_ | refine blk_alloc ?_ _)); exact BK241.out)) : gb242 ≠ gb241)); clear BK241; clear HB; have BK241 := n0_; have HB := n1_; have BK242 := n2_; have GW242 := n3_; have GE242 := n4_; have NB241_242 := n5_; have NB242_241 := n6_; clear n0_ n1_ n2_ n3_ n4_ n5_ n6_; clear hb hbox hg))
      have n0_ := Aside0.mk (blk_drew BK241.out)
      have n1_ := Aside0.mk (blk_drew BK242.out)
      have n2_ := Aside0.mk (below_drew1 HB.out)
      clear BK241
      clear BK242
      clear HB
      have BK241 := n0_
      have BK242 := n1_
      have HB := n2_
      clear n0_ n1_ n2_
      refine start_ (n := 10) (S := fun w' => w'.cell? ⟨gb241, 0, none⟩ = some (.int .i64 a2_0) ∧ w'.cell? ⟨gb241, 1, none⟩ = some (.int .i64 a2_1) ∧ w'.cell? ⟨gb242, 0, none⟩ = some (.int .i64 a3_0) ∧ w'.cell? ⟨gb242, 1, none⟩ = some (.int .i64 a3_1)) (ds := []) #[false, false, false, false, false, false, false, false, false, false] (by kernel_rfl) rfl rfl ⟨(blk_cell BK241.out 0).trans rfl, (blk_cell BK241.out 1).trans rfl, (blk_cell BK242.out 0).trans rfl, (blk_cell BK242.out 1).trans rfl⟩ (fun hHeld => ?_); refine with_tabW pomaderef04_Door.tab1 pomaderef04_Door.bits1 (fun HT_ HW_ => ?_)
      generalize w32.drew = w33 at BK241 BK242 HB hHeld ⊢
      refine pure_ (i := 0) (N := some 11) (v := ?_) (a' := ?_) #[true, false, false, false, false, false, false, false, false, false] rfl rfl (any_of HT_.out (by kernel_rfl)) (fun _ _ _ h => h) (Or.inl ⟨by rfl, ?_⟩) ?_ ?_
      rotate_left
      · intro w'
        go_simp
        with_reducible rfl
      rotate_left
      · simp only [Act.put, List.setIfInBounds_toArray, List.set_cons_zero, List.set_cons_succ, i64_w, i32_w]
        rfl
      refine pure_ (i := 1) (N := some 12) (v := ?_) (a' := ?_) #[true, true, false, false, false, false, false, false, false, false] rfl rfl (any_of HT_.out (by kernel_rfl)) (fun _ _ _ h => h) (Or.inl ⟨by rfl, ?_⟩) ?_ ?_
      rotate_left
      · intro w'
        go_simp
        with_reducible rfl
      rotate_left
      · simp only [Act.put, List.setIfInBounds_toArray, List.set_cons_zero, List.set_cons_succ, i64_w, i32_w]
        rfl
      refine pure_ (i := 4) (N := some 15) (v := ?_) (a' := ?_) #[true, true, false, false, true, false, false, false, false, false] rfl rfl (any_of HT_.out (by kernel_rfl)) (fun _ _ _ h => h) (Or.inl ⟨by rfl, ?_⟩) ?_ ?_
      rotate_left
      · intro w'
        go_simp
        with_reducible rfl
      rotate_left
      · simp only [Act.put, List.setIfInBounds_toArray, List.set_cons_zero, List.set_cons_succ, i64_w, i32_w]
        rfl
      refine pure_ (i := 5) (N := some 16) (v := ?_) (a' := ?_) #[true, true, false, false, true, true, false, false, false, false] rfl rfl (any_of HT_.out (by kernel_rfl)) (fun _ _ _ h => h) (Or.inl ⟨by rfl, ?_⟩) ?_ ?_
      rotate_left
      · intro w'
        go_simp
        with_reducible rfl
      rotate_left
      · simp only [Act.put, List.setIfInBounds_toArray, List.set_cons_zero, List.set_cons_succ, i64_w, i32_w]
        rfl
      refine take_ (i := 2) (N := some 13) (v := ?_) (a' := ?_) #[true, true, true, false, true, true, false, false, false, false] rfl rfl (take_ofW HT_.out HW_.out (by kernel_rfl)) (fun _ _ _ h => h) (Or.inl ⟨by rfl, ?_⟩) hHeld ?_ ?_
      rotate_left
      · rintro w' ⟨s0, s1, s2, s3⟩
        go_simp
        with_reducible rfl
      rotate_left
      · simp only [Act.put, List.setIfInBounds_toArray, List.set_cons_zero, List.set_cons_succ, i64_w, i32_w]
        rfl
      refine take_ (i := 6) (N := some 17) (v := ?_) (a' := ?_) #[true, true, true, false, true, true, true, false, false, false] rfl rfl (take_ofW HT_.out HW_.out (by kernel_rfl)) (fun _ _ _ h => h) (Or.inl ⟨by rfl, ?_⟩) hHeld ?_ ?_
      rotate_left
      · rintro w' ⟨s0, s1, s2, s3⟩
        go_simp
        with_reducible rfl
      rotate_left
      · simp only [Act.put, List.setIfInBounds_toArray, List.set_cons_zero, List.set_cons_succ, i64_w, i32_w]
        rfl
      refine one_ (i := 3) (N := some 14) #[true, true, true, true, true, true, true, false, false, false] rfl rfl (one_of HT_.out (by kernel_rfl)) (by decide) (fun K hK => ?_)
      refine goes_ Tryd.func73 (by kernel_rfl) rfl #[.int .i64 a0, .string a1, .agg #[.int .i64 a2_0, .int .i64 a2_1]] (by rfl) rfl rfl (by (try simp only [List.map_toArray, List.map_cons, List.map_nil]); first | done | rfl | (simp only [List.length_drop, List.length_take]; rfl)) ?_
      with_reducible refine (pomaderef04_colour.calls k a0 a1 a2_0 a2_1 t243 _ A5.out).mono ?_
      rintro e w34 ⟨rfl, hb⟩
      refine ⟨_, rfl, ?_⟩
      have n0_ := Aside0.mk (blk_below (g := gb241) (o := .cells #[.int .i64 a2_0, .int .i64 a2_1] 52 (0, 0)) (by (with_reducible repeat (first | refine blk_drewN ?_ _ | refine blk_drew ?_ | refine blk_alloc ?_ _)); exact BK241.out) hb)
      have n1_ := Aside0.mk (blk_below (g := gb242) (o := .cells #[.int .i64 a3_0, .int .i64 a3_1] 52 (0, 0)) (by (with_reducible repeat (first | refine blk_drewN ?_ _ | refine blk_drew ?_ | refine blk_alloc ?_ _)); exact BK242.out) hb)
      have n2_ := Aside0.mk (below_step (by repeat (first | (with_reducible first | exact HB.out | apply below_alloc | apply pw_below_drewN | apply below_drew1 | refine below_set ?_ GE241.out | refine below_set ?_ GE242.out) | exact HB.out)) hb)
      clear BK241
      clear BK242
      clear HB
      have BK241 := n0_
      have BK242 := n1_
      have HB := n2_
      clear n0_ n1_ n2_
      (try clear hb)
      (try clear hb2)
      (try clear hk)
      (try clear hi)
      refine hK.out _ _ ⟨(blk_cell BK241.out 0).trans rfl, (blk_cell BK241.out 1).trans rfl, (blk_cell BK242.out 0).trans rfl, (blk_cell BK242.out 1).trans rfl⟩ (fun hHeld => ?_)
      clear hK K
      refine norm_ (a' := ?_) ?_ ?_
      rotate_left
      · show Act.put _ (some 14) _ = _
        simp only [Act.put, List.setIfInBounds_toArray, List.set_cons_zero, List.set_cons_succ, i64_w, i32_w]
        rfl
      refine one_ (i := 7) (N := some 18) #[true, true, true, true, true, true, true, true, false, false] rfl rfl (one_of HT_.out (by kernel_rfl)) (by decide) (fun K hK => ?_)
      refine goes_ Tryd.func73 (by kernel_rfl) rfl #[.int .i64 a0, .string a1, .agg #[.int .i64 a3_0, .int .i64 a3_1]] (by rfl) rfl rfl (by (try simp only [List.map_toArray, List.map_cons, List.map_nil]); first | done | rfl | (simp only [List.length_drop, List.length_take]; rfl)) ?_
      with_reducible refine (pomaderef04_colour.calls k a0 a1 a3_0 a3_1 t244 _ A6.out).mono ?_
      rintro e w35 ⟨rfl, hb⟩
      refine ⟨_, rfl, ?_⟩
      have n0_ := Aside0.mk (blk_below (g := gb241) (o := .cells #[.int .i64 a2_0, .int .i64 a2_1] 52 (0, 0)) (by (with_reducible repeat (first | refine blk_drewN ?_ _ | refine blk_drew ?_ | refine blk_alloc ?_ _)); exact BK241.out) hb)
      have n1_ := Aside0.mk (blk_below (g := gb242) (o := .cells #[.int .i64 a3_0, .int .i64 a3_1] 52 (0, 0)) (by (with_reducible repeat (first | refine blk_drewN ?_ _ | refine blk_drew ?_ | refine blk_alloc ?_ _)); exact BK242.out) hb)
      have n2_ := Aside0.mk (below_step (by repeat (first | (with_reducible first | exact HB.out | apply below_alloc | apply pw_below_drewN | apply below_drew1 | refine below_set ?_ GE241.out | refine below_set ?_ GE242.out) | exact HB.out)) hb)
      clear BK241
      clear BK242
      clear HB
      have BK241 := n0_
      have BK242 := n1_
      have HB := n2_
      clear n0_ n1_ n2_
      (try clear hb)
      (try clear hb2)
      (try clear hk)
      (try clear hi)
      refine hK.out _ _ ⟨(blk_cell BK241.out 0).trans rfl, (blk_cell BK241.out 1).trans rfl, (blk_cell BK242.out 0).trans rfl, (blk_cell BK242.out 1).trans rfl⟩ (fun hHeld => ?_)
      clear hK K
      refine norm_ (a' := ?_) ?_ ?_
      rotate_left
      · show Act.put _ (some 18) _ = _
        simp only [Act.put, List.setIfInBounds_toArray, List.set_cons_zero, List.set_cons_succ, i64_w, i32_w]
        rfl
      refine pure_ (i := 8) (N := some 9) (v := ?_) (a' := ?_) #[true, true, true, true, true, true, true, true, true, false] rfl rfl (any_of HT_.out (by kernel_rfl)) (fun _ _ _ h => h) (Or.inl ⟨by rfl, ?_⟩) ?_ ?_
      rotate_left
      · intro w'
        go_simp
        with_reducible rfl
      rotate_left
      · simp only [Act.put, List.setIfInBounds_toArray, List.set_cons_zero, List.set_cons_succ, i64_w, i32_w]
        rfl
      refine pure_ (i := 9) (N := some 10) (v := ?_) (a' := ?_) #[true, true, true, true, true, true, true, true, true, true] rfl rfl (any_of HT_.out (by kernel_rfl)) (fun _ _ _ h => h) (Or.inl ⟨by rfl, ?_⟩) ?_ ?_
      rotate_left
      · intro w'
        go_simp
        with_reducible rfl
      rotate_left
      · simp only [Act.put, List.setIfInBounds_toArray, List.set_cons_zero, List.set_cons_succ, i64_w, i32_w]
        rfl
      refine done_ (done_of HT_.out (by kernel_rfl)) ?_
      try go_wp2
      go_ret
      exact ⟨by first | rfl | (simp [errW_none, errW_some] <;> rfl) | (simp [*, errW_none, errW_some] <;> rfl), by repeat (first | (with_reducible first | exact HB.out | apply below_alloc | apply pw_below_drewN | apply below_drew1 | refine below_set ?_ GE241.out | refine below_set ?_ GE242.out) | exact HB.out)⟩
end Go.Proofs.YtlmgkmmdaecpdaaDoor.Im

namespace Go.Proofs.YtlmgkmmdaecpdaaDoor.Mi
set_option linter.unusedVariables false
def it {X : Type} (nx : X → Option X) : Nat → X → Option X
  | 0, x => some x
  | k + 1, x => (it nx k x).bind nx
structure Doors {X : Type} (nx : X → Option X) (rev : X → X) (good : X → Prop) : Prop where
  inj : ∀ x y z, nx x = some z → nx y = some z → x = y
  on : ∀ x y, nx x = some y → good x
  back : ∀ x y, nx x = some y → good y → nx (rev y) = some (rev x)
  rev2 : ∀ x, good x → rev (rev x) = x
  revn : ∀ x, good x → rev x ≠ x
  far : ∀ x y, nx x = some y → y ≠ rev x
section
variable {X : Type} {nx : X → Option X} {rev : X → X} {good : X → Prop}
def Start (nx : X → Option X) (x : X) : Prop := ∀ y, nx y ≠ some x
theorem it_pred {k : Nat} {x a : X} (h : it nx (k + 1) x = some a) : ∃ b, it nx k x = some b ∧ nx b = some a := by
  show ∃ b, _
  have h : (it nx k x).bind nx = some a := h
  cases hb : it nx k x with
  | none => rw [hb] at h; cases h
  | some b => rw [hb] at h; exact ⟨b, rfl, h⟩
theorem it_le {x a : X} : ∀ {k : Nat} (j : Nat), it nx k x = some a → j ≤ k → ∃ b, it nx j x = some b
  | 0, j, h, hj => ⟨a, by rw [show j = 0 by omega]; exact h⟩
  | k + 1, j, h, hj => by
    rcases Nat.lt_or_ge j (k + 1) with h1 | h1
    · obtain ⟨b, hb, _⟩ := it_pred h
      exact it_le (a := b) j hb (by omega)
    · exact ⟨a, by rw [show j = k + 1 by omega]; exact h⟩
theorem Doors.once (D : Doors nx rev good) {x a : X} (hs : Start nx x) : ∀ {s t : Nat}, it nx s x = some a → it nx t x = some a → s = t
  | 0, 0, _, _ => rfl
  | 0, t + 1, h, k => by
    have h : some x = some a := h
    cases h
    obtain ⟨b, _, hb⟩ := it_pred k
    exact absurd hb (hs b)
  | s + 1, 0, h, k => by
    have k : some x = some a := k
    cases k
    obtain ⟨b, _, hb⟩ := it_pred h
    exact absurd hb (hs b)
  | s + 1, t + 1, h, k => by
    obtain ⟨b, h1, h2⟩ := it_pred h
    obtain ⟨d, k1, k2⟩ := it_pred k
    have e := D.inj b d a h2 k2
    subst e
    rw [Doors.once D hs h1 k1]
theorem Doors.never (D : Doors nx rev good) {x : X} : ∀ (d s : Nat) (a : X), it nx s x = some a → good a → it nx (s + d) x = some (rev a) → False
  | 0, s, a, h, hg, k => by
    rw [Nat.add_zero, h] at k
    exact D.revn a hg (Option.some.inj k).symm
  | 1, s, a, h, hg, k => by
    obtain ⟨b, k1, k2⟩ := it_pred k
    have : b = a := Option.some.inj (k1.symm.trans h)
    subst this
    exact D.far b (rev b) k2 rfl
  | d + 2, s, a, h, hg, k => by
    obtain ⟨b, k1, k2⟩ := it_pred (k := s + (d + 1)) k
    obtain ⟨e, he⟩ := it_le (s + 1) k1 (by omega)
    obtain ⟨a', e1, e2⟩ := it_pred he
    have : a' = a := Option.some.inj (e1.symm.trans h)
    subst this
    have hge : good e := by
      cases d with
      | zero =>
        have : e = b := Option.some.inj (he.symm.trans k1)
        rw [this]
        exact D.on b _ k2
      | succ d =>
        obtain ⟨f, hf⟩ := it_le (s + 1 + 1) k1 (by omega)
        obtain ⟨e', f1, f2⟩ := it_pred hf
        have : e' = e := Option.some.inj (f1.symm.trans he)
        rw [← this]
        exact D.on e' f f2
    have h3 := D.back a' e e2 hge
    have h4 := D.inj b (rev e) _ k2 h3
    subst h4
    refine Doors.never D d (s + 1) e he hge ?_
    rw [show s + 1 + d = s + (d + 1) by omega]
    exact k1
theorem Doors.cells (D : Doors nx rev good) {x a b : X} (hs : Start nx x) {s t : Nat} (h : it nx s x = some a) (k : it nx t x = some b) (e : a = b ∨ (good a ∧ good b ∧ b = rev a)) : s = t := by
  rcases e with rfl | ⟨ga, gb, rfl⟩
  · exact D.once hs h k
  · rcases Nat.le_total s t with hl | hl
    · exact absurd (by rw [show s + (t - s) = t by omega]; exact k) (fun q => D.never (t - s) s a h ga q)
    · have e2 := D.rev2 a ga
      exact absurd (show it nx (t + (s - t)) x = some (rev (rev a)) by rw [show t + (s - t) = s by omega, e2]; exact h) (fun q => D.never (s - t) t (rev a) k gb q)
theorem Doors.apart (D : Doors nx rev good) {x y e : X} (hx : Start nx x) (hy : Start nx y) (hne : x ≠ y) {T : Nat} (hT : it nx T x = some e) (he : nx e = none) (hge : good e) (hre : Start nx (rev e)) (hye : y ≠ rev e) :
    ∀ {s t : Nat} {a b : X}, it nx s x = some a → it nx t y = some b → ¬ (a = b ∨ (good a ∧ good b ∧ b = rev a)) := by
  have end_ : ∀ {s : Nat} {a : X}, it nx s x = some a → s ≤ T := fun {s a} h => by
    rcases Nat.lt_or_ge T s with h1 | h1
    · obtain ⟨f, hf⟩ := it_le (T + 1) h (by omega)
      obtain ⟨e', f1, f2⟩ := it_pred hf
      have : e' = e := Option.some.inj (f1.symm.trans hT)
      rw [this, he] at f2
      cases f2
    · exact h1
  have goods : ∀ {s : Nat} {a : X}, it nx s x = some a → good a := fun {s a} h => by
    have hs := end_ h
    rcases Nat.lt_or_ge s T with h1 | h1
    · obtain ⟨f, hf⟩ := it_le (s + 1) hT (by omega)
      obtain ⟨a', f1, f2⟩ := it_pred hf
      have : a' = a := Option.some.inj (f1.symm.trans h)
      rw [← this]
      exact D.on a' f f2
    · have : s = T := by omega
      subst this
      have : a = e := Option.some.inj (h.symm.trans hT)
      rw [this]
      exact hge
  have same : ∀ (s t : Nat) (a : X), it nx s x = some a → it nx t y = some a → False := fun s => by
    induction s with
    | zero =>
      intro t a h k
      have h : some x = some a := h
      cases h
      cases t with
      | zero => exact hne (Option.some.inj k).symm
      | succ t => obtain ⟨b, _, hb⟩ := it_pred k; exact hx b hb
    | succ s ih =>
      intro t a h k
      obtain ⟨b, h1, h2⟩ := it_pred h
      cases t with
      | zero =>
        have k : some y = some a := k
        cases k
        exact hy b h2
      | succ t =>
        obtain ⟨d, k1, k2⟩ := it_pred k
        have := D.inj b d a h2 k2
        subst this
        exact ih t b h1 k1
  have turn : ∀ (t s : Nat) (a : X), it nx s x = some a → it nx t y = some (rev a) → False := fun t => by
    induction t with
    | zero =>
      intro s a h k
      have k : some y = some (rev a) := k
      have k := Option.some.inj k
      rcases Nat.lt_or_ge s T with h1 | h1
      · obtain ⟨f, hf⟩ := it_le (s + 1) hT (by omega)
        obtain ⟨a', f1, f2⟩ := it_pred hf
        have : a' = a := Option.some.inj (f1.symm.trans h)
        subst this
        have := D.back a' f f2 (goods hf)
        rw [← k] at this
        exact hy _ this
      · have hs := end_ h
        have : s = T := by omega
        subst this
        have : a = e := Option.some.inj (h.symm.trans hT)
        rw [this] at k
        exact hye k
    | succ t ih =>
      intro s a h k
      obtain ⟨d, k1, k2⟩ := it_pred k
      rcases Nat.lt_or_ge s T with h1 | h1
      · obtain ⟨f, hf⟩ := it_le (s + 1) hT (by omega)
        obtain ⟨a', f1, f2⟩ := it_pred hf
        have : a' = a := Option.some.inj (f1.symm.trans h)
        subst this
        have h3 := D.back a' f f2 (goods hf)
        have := D.inj d (rev f) _ k2 h3
        subst this
        exact ih (s + 1) f hf k1
      · have hs := end_ h
        have : s = T := by omega
        subst this
        have : a = e := Option.some.inj (h.symm.trans hT)
        rw [this] at k2
        exact hre d k2
  intro s t a b h k ec
  rcases ec with rfl | ⟨_, _, rfl⟩
  · exact same s t a h k
  · exact turn t s a h k
end
end Go.Proofs.YtlmgkmmdaecpdaaDoor.Mi

namespace Go.Proofs.YtlmgkmmdaecpdaaDoor.Mi
set_option linter.unusedVariables false
abbrev Tri3 : Type := Nat × Nat × Nat
def edP (e : Tri3) : Nat × Nat := if e.1 = 2 then (e.2.1, e.2.2 + 1) else (e.2.1, e.2.2)
def edQ (e : Tri3) : Nat × Nat := if e.1 = 1 then (e.2.1, e.2.2 + 1) else (e.2.1 + 1, e.2.2)
def ceOk (n : Nat) (x : Tri3) : Prop := x.1 ≤ 1 ∧ x.2.1 + x.2.2 + x.1 + 1 ≤ n
def edsC (x : Tri3) : List Tri3 := if x.1 = 0 then [(0, x.2.1, x.2.2), (1, x.2.1, x.2.2), (2, x.2.1, x.2.2)] else [(2, x.2.1, x.2.2), (1, x.2.1 + 1, x.2.2), (0, x.2.1, x.2.2 + 1)]
section
variable (c : Nat → Nat → Nat)
def doorC (e : Tri3) : Bool := isD (c (edP e).1 (edP e).2) (c (edQ e).1 (edQ e).2)
def fulC3 (x : Tri3) : Bool := if x.1 = 0 then fullC (c x.2.1 x.2.2) (c (x.2.1 + 1) x.2.2) (c x.2.1 (x.2.2 + 1)) else fullC (c (x.2.1 + 1) x.2.2) (c (x.2.1 + 1) (x.2.2 + 1)) (c x.2.1 (x.2.2 + 1))
def goodS (n : Nat) (s : Tri3 × Tri3) : Prop := ceOk n s.1 ∧ s.2 ∈ edsC s.1 ∧ doorC c s.2 = true ∧ fulC3 c s.1 = false
instance (n : Nat) (e : Tri3) : Decidable (ceOk n e) := inferInstanceAs (Decidable (_ ∧ _))
instance (n : Nat) (s : Tri3 × Tri3) : Decidable (goodS c n s) := inferInstanceAs (Decidable (_ ∧ _ ∧ _ ∧ _))
end
end Go.Proofs.YtlmgkmmdaecpdaaDoor.Mi

namespace Go.Proofs.YtlmgkmmdaecpdaaDoor.Im
open Go.RowKit Go.Proofs.YtlmgkmmdaecpdaaDoorW.PrintWords Go.Proofs.YtlmgkmmdaecpdaaDoorW.PrintLast Go.Proofs.YtlmgkmmdaecpdaaDoorW.PrintMore Go.Proofs.YtlmgkmmdaecpdaaDoor.Mi
set_option linter.unusedVariables false
theorem Gives.step2 {α β γ : Type} {f : Nat → Option α} {r : α} {g : Nat → Option β} {s : β} {h : Nat → Option γ} {t : γ} (h1 : Gives f r) (h2 : Gives g s) (hs : ∀ k, f k = some r → g k = some s → h (k + 1) = some t) : Gives h t := by
  obtain ⟨k1, h1⟩ := h1
  obtain ⟨k2, h2⟩ := h2
  exact ⟨k1 + k2 + 1, fun k hk => by obtain ⟨m, rfl⟩ : ∃ m, k = m + 1 := ⟨k - 1, by omega⟩; exact hs m (h1 m (by omega)) (h2 m (by omega))⟩
theorem Gives.map2 {α β γ : Type} {f : Nat → Option α} {r : α} {g : Nat → Option β} {s : β} {h : Nat → Option γ} {t : γ} (h1 : Gives f r) (h2 : Gives g s) (hs : ∀ k, f k = some r → g k = some s → h k = some t) : Gives h t := by
  obtain ⟨k1, h1⟩ := h1
  obtain ⟨k2, h2⟩ := h2
  exact ⟨k1 + k2, fun k hk => hs k (h1 k (by omega)) (h2 k (by omega))⟩
theorem lists_l0 (xs : List (List Int)) (hx : xs.length < 1000000) (hr : ∀ x ∈ xs, x.length < 1000000) (d : Nat) : ∀ i : Nat, i + d = xs.length → Gives (fun k => pomadelaw04_lists.l0 k xs xs i) true := by
  induction d with
  | zero =>
    intro i h
    refine Gives.now fun k => ?_
    simp only [pomadelaw04_lists.l0]
    rw [if_neg (by omega)]
  | succ d ih =>
    intro i h
    have hm : rd_L3 xs (i : Int) ∈ xs := by
      unfold rd_L3
      rw [Int.toNat_natCast, List.getD, List.getElem?_eq_getElem (show i < xs.length by omega)]
      exact List.getElem_mem _
    refine (same_g (rd_L3 xs (i : Int)) (rd_L3 xs (i : Int)) (hr _ hm)).step2 (ih (i + 1) (by omega)) fun k h1 h2 => ?_
    simp only [pomadelaw04_lists.l0]
    rw [if_pos (by omega), if_pos (by omega), if_pos (by omega), h1, Option.bind_some, if_pos (by simp), wr_succ i (by omega)]
    exact h2
theorem lists_any (xs : List (List Int)) (A B : Option Addr) (c d : Nat) (w : World) (hx : xs.length < 1000000) (hr : ∀ x ∈ xs, x.length < 1000000) (hA : Kd.C (Kd.slice 3 (Kd.int .i64)) w A xs.length xs) (hc : xs.length ≤ c) (hB : Kd.C (Kd.slice 3 (Kd.int .i64)) w B xs.length xs) (hd : xs.length ≤ d) :
    Calls Tryd.prog 29 #[.slice A xs.length c, .slice B xs.length d] w fun e w' => e = .returned (.bool true) ∧ Below w.heap.size w w' := by
  have h0 : Gives (fun k => pomadelaw04_lists.f k xs xs) true := (lists_l0 xs hx hr xs.length 0 (by omega)).map fun k hk => by
    simp only [pomadelaw04_lists.f]
    rw [if_pos trivial]
    exact hk
  obtain ⟨k0, hk0⟩ := h0
  exact (pomadelaw04_lists.calls k0 A c xs B d xs _ w hA hc hB hd (hk0 k0 (Nat.le_refl _))).mono fun e w' ⟨h1, h2⟩ => ⟨h1, h2.below⟩
theorem proC_iff {n : Nat} {l : List UInt8} {i j : Nat} : proC n l i j = true ↔ (j = 0 → (colB n l i j).toNat ≠ 50) ∧ (i = 0 → (colB n l i j).toNat ≠ 49) ∧ (i + j = n → (colB n l i j).toNat ≠ 48) := by
  have e : colT n l i j = ((colB n l i j).toNat : Int) := rfl
  unfold proC
  rw [e]
  generalize (colB n l i j).toNat = c
  rw [Bool.not_eq_true', Bool.or_eq_false_iff, Bool.or_eq_false_iff, Bool.and_eq_false_iff, Bool.and_eq_false_iff, Bool.and_eq_false_iff]
  simp only [beq_eq_false_iff_ne, ne_eq]
  omega
def rowP (n : Nat) (l : List UInt8) (i : Nat) : Nat → Nat → Bool
  | _, 0 => true
  | j, d + 1 => proC n l i j && rowP n l i (j + 1) d
def colP (n : Nat) (l : List UInt8) : Nat → Nat → Bool
  | _, 0 => true
  | i, d + 1 => rowP n l i 0 (n + 1 - i) && colP n l (i + 1) d
theorem rowP_iff {n : Nat} {l : List UInt8} {i : Nat} : ∀ {d j : Nat}, rowP n l i j d = true ↔ ∀ t, t < d → proC n l i (j + t) = true
  | 0, j => ⟨fun _ t h => absurd h (Nat.not_lt_zero t), fun _ => rfl⟩
  | d + 1, j => by
    show (proC n l i j && rowP n l i (j + 1) d) = true ↔ _
    rw [Bool.and_eq_true, rowP_iff]
    constructor
    · rintro ⟨h1, h2⟩ t ht
      cases t with
      | zero => exact h1
      | succ t => rw [show j + (t + 1) = j + 1 + t by omega]; exact h2 t (by omega)
    · intro h
      exact ⟨h 0 (by omega), fun t ht => by rw [show j + 1 + t = j + (t + 1) by omega]; exact h (t + 1) (by omega)⟩
theorem colP_iff {n : Nat} {l : List UInt8} : ∀ {d i : Nat}, colP n l i d = true ↔ ∀ t, t < d → rowP n l (i + t) 0 (n + 1 - (i + t)) = true
  | 0, i => ⟨fun _ t h => absurd h (Nat.not_lt_zero t), fun _ => rfl⟩
  | d + 1, i => by
    show (rowP n l i 0 (n + 1 - i) && colP n l (i + 1) d) = true ↔ _
    rw [Bool.and_eq_true, colP_iff]
    constructor
    · rintro ⟨h1, h2⟩ t ht
      cases t with
      | zero => exact h1
      | succ t => rw [show i + (t + 1) = i + 1 + t by omega]; exact h2 t (by omega)
    · intro h
      exact ⟨h 0 (by omega), fun t ht => by rw [show i + 1 + t = i + (t + 1) by omega]; exact h (t + 1) (by omega)⟩
theorem colP_all (n : Nat) (l : List UInt8) : colP n l 0 (n + 1) = proB n l := by
  rw [Bool.eq_iff_iff, colP_iff, proB_iff]
  constructor
  · intro h i j hij
    have h1 := rowP_iff.1 (h i (by omega)) j (by omega)
    simpa using h1
  · intro h t ht
    refine rowP_iff.2 fun u hu => ?_
    have := h (0 + t) (0 + u) (by omega)
    exact this
theorem proper_l1 (n : Nat) (s : ByteArray) (i : Nat) (R : Bool) (hn : n ≤ 20) (hs : s.size = offT n (n + 1)) (h0 : Gives (fun k => pomaderef04_proper.l0 k n s ((i + 1 : Nat) : Int)) R) (d : Nat) : ∀ j : Nat, i + j + d = n + 1 → Gives (fun k => pomaderef04_proper.l1 k n s i j) (rowP n s.data.toList i j d && R) := by
  induction d with
  | zero =>
    intro j h
    refine h0.step fun k hk => ?_
    simp only [pomaderef04_proper.l1]
    rw [wr_small (x := (i : Int) + (j : Int)) (by omega) (by omega), if_neg (by omega), wr_succ i (by omega)]
    show _ = some (true && R)
    rw [Bool.true_and]
    exact hk
  | succ d ih =>
    intro j h
    have hc := colour_g n s i j hn (by omega) hs
    refine hc.step2 (ih (j + 1) (by omega)) fun k h1 h2 => ?_
    simp only [pomaderef04_proper.l1]
    have hp := proC_iff (n := n) (l := s.data.toList) (i := i) (j := j)
    have e : rowP n s.data.toList i j (d + 1) = (proC n s.data.toList i j && rowP n s.data.toList i (j + 1) d) := rfl
    rw [wr_small (x := (i : Int) + (j : Int)) (by omega) (by omega), if_pos (by omega), h1, Option.bind_some, wr_succ j (by omega), e]
    clear h1 hc hs e
    generalize (colB n s.data.toList i j).toNat = c at *
    cases hq : proC n s.data.toList i j with
    | true =>
      have hf := hp.1 hq
      rw [Bool.true_and]
      clear hp hq
      repeat' split
      all_goals first
        | exact h2
        | (exfalso; omega)
    | false =>
      have hf : ¬ ((j = 0 → c ≠ 50) ∧ (i = 0 → c ≠ 49) ∧ (i + j = n → c ≠ 48)) := fun x => by rw [hp.2 x] at hq; cases hq
      clear hp hq
      rw [Bool.false_and, Bool.false_and]
      repeat' split
      all_goals first
        | rfl
        | (exfalso; omega)
theorem proper_l0 (n : Nat) (s : ByteArray) (hn : n ≤ 20) (hs : s.size = offT n (n + 1)) (d : Nat) : ∀ i : Nat, i + d = n + 1 → Gives (fun k => pomaderef04_proper.l0 k n s i) (colP n s.data.toList i d) := by
  induction d with
  | zero =>
    intro i h
    refine Gives.now fun k => ?_
    simp only [pomaderef04_proper.l0]
    rw [if_neg (by omega)]
    rfl
  | succ d ih =>
    intro i h
    refine (proper_l1 n s i _ hn hs (ih (i + 1) (by omega)) (n + 1 - i) 0 (by omega)).step fun k hk => ?_
    simp only [pomaderef04_proper.l0]
    rw [if_pos (by omega)]
    exact hk
theorem rproper_g (n : Nat) (s : ByteArray) (hn : n ≤ 20) (hs : s.size = offT n (n + 1)) : Gives (fun k => pomaderef04_proper.f k n s) (proB n s.data.toList) := by
  rw [← colP_all]
  exact proper_l0 n s hn hs (n + 1) 0 (by omega)
theorem col_size {n : Int} {s : ByteArray} (h : triE n s = 0) : s.size = offT n.toNat (n.toNat + 1) := by
  have := (col_of h).len
  rw [Array.length_toList] at this
  exact this
theorem rproper_call (n : Int) (s : ByteArray) (w : World) (hs : s.size ≤ 1000000) :
    Calls Tryd.prog 26 #[.int .i64 n, .string s] w fun e w' => e = .returned (.tuple #[.bool (proR n s), .int .i64 (triE n s)]) ∧ Below w.heap.size w w' := by
  have h0 : Gives (fun k => pomaderef04_Proper.f k n s) (proR n s, triE n s) := by
    by_cases hE : triE n s = 0
    · have hc := col_of hE
      obtain ⟨N, hN⟩ : ∃ N : Nat, n = N := ⟨n.toNat, by have := hc.n1; omega⟩
      have hp := rproper_g n.toNat s hc.n20 (col_size hE)
      have hn : ((n.toNat : Nat) : Int) = n := by rw [hN]; rfl
      rw [hn] at hp
      refine (triangle_g n s hs).map2 hp fun k h1 h2 => ?_
      simp only [pomaderef04_Proper.f]
      rw [h1, Option.bind_some, if_pos hE, h2, Option.bind_some, hE]
      unfold proR
      rw [hE]
      rfl
    · refine (triangle_g n s hs).map fun k h1 => ?_
      simp only [pomaderef04_Proper.f]
      rw [h1, Option.bind_some, if_neg hE]
      unfold proR
      rw [decide_eq_false hE]
      rfl
  obtain ⟨k0, hk0⟩ := h0
  exact pomaderef04_Proper.calls k0 n s _ _ w (hk0 k0 (Nat.le_refl _))
end Go.Proofs.YtlmgkmmdaecpdaaDoor.Im

namespace Go.Proofs.YtlmgkmmdaecpdaaDoor.Im
open Go.RowKit Go.Proofs.YtlmgkmmdaecpdaaDoorW.PrintWords Go.Proofs.YtlmgkmmdaecpdaaDoorW.PrintLast Go.Proofs.YtlmgkmmdaecpdaaDoorW.PrintMore Go.Proofs.YtlmgkmmdaecpdaaDoor.Mi
set_option linter.unusedVariables false
theorem al_f (w : World) : Calls Tryd.prog 28 #[.int .i64 1, .string ⟨#[48, 50, 49]⟩] w fun e w' => Below w.heap.size w w' ∧ ∃ v, e = .returned (.tuple #[v, .int .i64 0]) ∧ Kd.R (Kd.slice 3 (Kd.int .i64)) 34 w' w.heap.size (fun _ => True) v [[0, 0, 0]] := by
  refine (full_call 1 ⟨#[48, 50, 49]⟩ w (by decide)).mono ?_
  rintro e w' ⟨h1, h2⟩
  rw [if_pos al_err] at h2
  obtain ⟨v, h3, h4⟩ := h2
  exact ⟨h1, v, h3, by have := h4; rw [show fulL (1 : Int).toNat (⟨#[48, 50, 49]⟩ : ByteArray).data.toList = [[0, 0, 0]] from al_full] at this; exact this⟩
theorem al_t (w : World) (mL : Int) (hm : w.cell? ⟨1, 0, none⟩ = some (.int .i64 mL)) : Calls Tryd.prog 31 #[.int .i64 1, .string ⟨#[48, 50, 49]⟩] w fun e w' => Below w.heap.size w w' ∧ e = .returned (.tuple #[.int .i64 1, .int .i64 0, .int .i64 0]) := by
  refine (turns_call 1 ⟨#[48, 50, 49]⟩ w (by decide) mL hm).mono ?_
  rintro e w' ⟨h1, h2⟩
  rw [if_pos al_err, show rigL (1 : Int).toNat (⟨#[48, 50, 49]⟩ : ByteArray).data.toList = 1 from al_rig, show lefL (1 : Int).toNat (⟨#[48, 50, 49]⟩ : ByteArray).data.toList = 0 from al_lef] at h2
  exact ⟨h1, h2⟩
theorem al_n (w : World) (hst : Steps w) : Calls Tryd.prog 20 #[.int .i64 2, .string ⟨#[46, 46, 46, 46]⟩, .string ⟨#[120]⟩] w fun e w' => Below w.heap.size w w' ∧ e = .returned (.tuple #[.int .i64 2, .int .i64 0]) := by
  refine (needs_call 2 ⟨#[46, 46, 46, 46]⟩ ⟨#[120]⟩ w hst (by decide)).mono ?_
  rintro e w' ⟨h1, h2⟩
  refine ⟨h1, ?_⟩
  rw [h2, show needsR 2 ⟨#[46, 46, 46, 46]⟩ ⟨#[120]⟩ = (2, 0) from by
    unfold needsR
    rw [if_pos (by decide), if_pos (by unfold plB; rw [ByteArray.toList_mk]; rfl), show needO (2 : Int).toNat (bsOf ⟨#[46, 46, 46, 46]⟩) (bt ⟨#[120]⟩ 0) = some 2 from al_need]
    rfl]
theorem al_w (w : World) (hst : Steps w) : Calls Tryd.prog 18 #[.int .i64 2, .string ⟨#[46, 46, 46, 46]⟩] w fun e w' => Below w.heap.size w w' ∧ e = .returned (.tuple #[.string ⟨#[120]⟩, .int .i64 0]) := by
  refine (wins_call 2 ⟨#[46, 46, 46, 46]⟩ w hst (by decide)).mono ?_
  rintro e w' ⟨h1, h2⟩
  refine ⟨h1, ?_⟩
  rw [h2, show winsR 2 ⟨#[46, 46, 46, 46]⟩ = (⟨#[120]⟩, 0) from by
    unfold winsR
    rw [if_pos (by decide), if_pos (by decide), if_pos (by decide), show gv (2 : Int).toNat (⟨#[46, 46, 46, 46]⟩ : ByteArray).data.toList = 120 from al_gv]
    rfl]
theorem al_v (w : World) (hst : Steps w) : Calls Tryd.prog 24 #[.int .i64 2, .string ⟨#[120, 111, 111, 120]⟩] w fun e w' => Below w.heap.size w w' ∧ ∃ A c, e = .returned (.tuple #[.string ⟨#[111]⟩, .slice (some A) 2 c, .int .i64 0]) ∧ Kd.R (Kd.int .i64) 3 w' w.heap.size (fun _ => True) (.slice (some A) 2 c) [2, 1] := by
  refine (winner_call 2 ⟨#[120, 111, 111, 120]⟩ w hst (by decide)).mono ?_
  rintro e w' ⟨h1, h2⟩
  rw [if_pos (by decide)] at h2
  obtain ⟨G, A, c, h3, h4, h5⟩ := h2
  rw [show winB (2 : Int).toNat (bsOf ⟨#[120, 111, 111, 120]⟩) = 111 from al_winB] at h3 h4
  rw [show brO (2 : Int).toNat (bsOf ⟨#[120, 111, 111, 120]⟩) 111 = some [2, 1] from al_bridge] at h3
  cases h3
  exact ⟨h1, A, c, h4, h5⟩
end Go.Proofs.YtlmgkmmdaecpdaaDoor.Im

namespace Go.Proofs.YtlmgkmmdaecpdaaDoor.Im
open Go.RowKit Go.Proofs.YtlmgkmmdaecpdaaDoorW.PrintWords Go.Proofs.YtlmgkmmdaecpdaaDoorW.PrintLast Go.Proofs.YtlmgkmmdaecpdaaDoorW.PrintMore Go.Proofs.YtlmgkmmdaecpdaaDoor.Mi
set_option linter.unusedVariables false
set_option maxHeartbeats 6400000 in
set_option maxRecDepth 100000 in
theorem alive_any (w : World) (hst : Steps w) (mL : Int) (hm : w.cell? ⟨1, 0, none⟩ = some (.int .i64 mL)) : Calls Tryd.prog 17 #[] w fun e w' => e = .returned (.bool true) ∧ Below w.heap.size w w' := by
  have HS := Aside0.mk hst
  have HM := Aside0.mk hm
  clear hst hm
  go_enter Tryd.func17, Tryd.ntmps17
  go_wp2_with fail
  refine (al_f _).mono ?_
  rintro e w1 ⟨hb1, v1, rfl, hR1⟩
  have HB1 := Aside0.mk hb1
  have HR1 := Aside0.mk hR1
  clear hb1 hR1
  go_wp2_with fail
  refine (al_t _ mL ((HB1.out.cell (World.block_lt_of_cell? w _ HM.out)).trans HM.out)).mono ?_
  rintro e w2 ⟨hb2, rfl⟩
  have HB2 := Aside0.mk (below_then HB1.out HB1.out.size hb2)
  have HR2 := Aside0.mk (Kd.R_below HR1.out hb2)
  clear hb2 HB1 HR1
  go_wp2_with fail
  refine (al_v _ (HS.out.later HB2.out)).mono ?_
  rintro e w3 ⟨hb3, A3, c3, rfl, hR3⟩
  have HB3 := Aside0.mk (below_then HB2.out HB2.out.size hb3)
  have HR3 := Aside0.mk (Kd.R_below HR2.out hb3)
  have HV3 := Aside0.mk hR3
  clear hb3 hR3 HB2 HR2
  go_wp2_with fail
  refine (al_n _ (HS.out.later HB3.out)).mono ?_
  rintro e w4 ⟨hb4, rfl⟩
  have HB4 := Aside0.mk (below_then HB3.out HB3.out.size hb4)
  have HR4 := Aside0.mk (Kd.R_below HR3.out hb4)
  have HV4 := Aside0.mk (Kd.R_below HV3.out hb4)
  clear hb4 HB3 HR3 HV3
  go_wp2_with fail
  refine (al_w _ (HS.out.later HB4.out)).mono ?_
  rintro e w5 ⟨hb5, rfl⟩
  have HB5 := Aside0.mk (below_then HB4.out HB4.out.size hb5)
  have HR5 := Aside0.mk (Kd.R_below HR4.out hb5)
  have HV5 := Aside0.mk (Kd.R_below HV4.out hb5)
  clear hb5 HB4 HR4 HV4
  obtain ⟨g1, c1, rfl, _, _, _⟩ := Kd.R_form HR5.out (by decide)
  obtain ⟨_, _, hC1⟩ := Kd.R_reads' HR5.out
  obtain ⟨ad, A0, c0, e0, hcell, hlc, hC0⟩ := at_L3 hC1 0 (by decide) (by decide)
  cases e0
  have hc1 : w5.cell? ⟨g1, 0, none⟩ = some (.slice A0 3 c0) := hcell
  have HC0 := Aside0.mk hC0
  have hlc' : 3 ≤ c0 := hlc
  clear hcell hC1 hC0 hlc HR5
  go_wp2_with fail
  have hba : Below w5.heap.size w5 (w5.alloc (.cells #[.int .i64 0, .int .i64 0, .int .i64 0] 3)) := below_alloc (Below.refl _ _) _
  refine (same_any [0, 0, 0] [0, 0, 0] A0 (some ⟨w5.heap.size, 0, none⟩) c0 3 _ (by decide) (Kd.C_below HC0.out hba) hlc' (C_i3 w5 0 0 0) (by decide)).mono ?_
  rintro e w6 ⟨rfl, hb6⟩
  have hbw := below_then hba hba.size hb6
  have HB6 := Aside0.mk (below_then HB5.out HB5.out.size hbw)
  have HV6 := Aside0.mk (Kd.R_below HV5.out hbw)
  clear hba hb6 hbw HB5 HV5 HC0
  obtain ⟨hn3, hl3, hC3⟩ := Kd.R_reads' HV6.out
  have HC3 := Aside0.mk hC3
  have hl3' : 2 ≤ c3 := hl3
  clear hn3 hl3 hC3
  go_wp2_with fail
  have hbb : Below w6.heap.size w6 (w6.alloc (.cells #[.int .i64 2, .int .i64 1] 3)) := below_alloc (Below.refl _ _) _
  refine (same_any [2, 1] [2, 1] (some A3) (some ⟨w6.heap.size, 0, none⟩) c3 2 _ (by decide) (Kd.C_below HC3.out hbb) hl3' (C_i2 w6 2 1) (by decide)).mono ?_
  rintro e w7 ⟨rfl, hb7⟩
  have HB7 := Aside0.mk (below_then HB6.out HB6.out.size (below_then hbb hbb.size hb7))
  clear hb7 hbb HB6 HV6
  go_wp2_with fail
  go_ret
  exact ⟨rfl, HB7.out⟩
end Go.Proofs.YtlmgkmmdaecpdaaDoor.Im

namespace Go.Proofs.YtlmgkmmdaecpdaaDoor.Im
open Go.RowKit Go.Proofs.YtlmgkmmdaecpdaaDoorW.PrintWords Go.Proofs.YtlmgkmmdaecpdaaDoorW.PrintLast Go.Proofs.YtlmgkmmdaecpdaaDoorW.PrintMore
attribute [local go_sem] max2_int min2_int max_two min_two max_three min_three max_four min_four
set_option linter.unusedVariables false
set_option linter.unusedSimpArgs false
def pomadelaw04_flipped.l0 : Nat → Int → ByteArray → List Int → Int → Option (ByteArray)
  | 0, _, _, _, _ => none
  | k + 1, x0, x1, x5, x6 => if x6 < (x1.size : Int) then (if 0 ≤ x6 then (if (bt x1 x6) = 120 then (if x0 = 0 then (none) else (if 0 ≤ (wrap64 ((wrap64 ((Int.tmod x6 x0) * x0)) + (wrap64 (Int.tdiv x6 x0)))) then (if (wrap64 ((wrap64 ((Int.tmod x6 x0) * x0)) + (wrap64 (Int.tdiv x6 x0)))) < (x5.length : Int) then (pomadelaw04_flipped.l0 k x0 x1 (x5.set ((wrap64 ((wrap64 ((Int.tmod x6 x0) * x0)) + (wrap64 (Int.tdiv x6 x0)))) : Int).toNat 111) (wrap64 (x6 + 1))) else (none)) else (none))) else (if (bt x1 x6) = 111 then (if x0 = 0 then (none) else (if 0 ≤ (wrap64 ((wrap64 ((Int.tmod x6 x0) * x0)) + (wrap64 (Int.tdiv x6 x0)))) then (if (wrap64 ((wrap64 ((Int.tmod x6 x0) * x0)) + (wrap64 (Int.tdiv x6 x0)))) < (x5.length : Int) then (pomadelaw04_flipped.l0 k x0 x1 (x5.set ((wrap64 ((wrap64 ((Int.tmod x6 x0) * x0)) + (wrap64 (Int.tdiv x6 x0)))) : Int).toNat 120) (wrap64 (x6 + 1))) else (none)) else (none))) else (if x0 = 0 then (none) else (if 0 ≤ (wrap64 ((wrap64 ((Int.tmod x6 x0) * x0)) + (wrap64 (Int.tdiv x6 x0)))) then (if (wrap64 ((wrap64 ((Int.tmod x6 x0) * x0)) + (wrap64 (Int.tdiv x6 x0)))) < (x5.length : Int) then (pomadelaw04_flipped.l0 k x0 x1 (x5.set ((wrap64 ((wrap64 ((Int.tmod x6 x0) * x0)) + (wrap64 (Int.tdiv x6 x0)))) : Int).toNat (bt x1 x6)) (wrap64 (x6 + 1))) else (none)) else (none))))) else (none)) else (some (strOfNums x5))
def pomadelaw04_flipped.f (k : Nat) (a0 : Int) (a1 : ByteArray) : Option (ByteArray) := if 0 ≤ (a1.size : Int) then (if ((a1.size : Int) : Int).toNat ≤ 281474976710656 then (pomadelaw04_flipped.l0 k a0 a1 (List.replicate ((a1.size : Int) : Int).toNat 0) 0) else (none)) else (none)
theorem pomadelaw04_flipped.mono_l : ∀ k, (∀ y0 y1 y2 y3, LeO (pomadelaw04_flipped.l0 k y0 y1 y2 y3) (pomadelaw04_flipped.l0 (k + 1) y0 y1 y2 y3))
  | 0 => fun _ _ _ _ r h => by simp [pomadelaw04_flipped.l0] at h
  | k + 1 => by
    have ih0 := pomadelaw04_flipped.mono_l k
    · intro y0 y1 y2 y3
      unfold pomadelaw04_flipped.l0
      repeat' first
      | (with_reducible exact ih0 _ _ _ _)
      | (with_reducible exact LeO.refl _)
      | (with_reducible exact LeO.none _)
      | (with_reducible refine LeO.ite ?_ ?_)
      | (with_reducible refine LeO.bind ?_ (fun _ => ?_))
      | exact ih0 _ _ _ _
      | exact LeO.none _
      | refine LeO.ite ?_ ?_
      | refine LeO.bind ?_ (fun _ => ?_)
theorem pomadelaw04_flipped.mono : ∀ a0 a1 k, LeO (pomadelaw04_flipped.f k a0 a1) (pomadelaw04_flipped.f (k + 1) a0 a1) := by
  intro a0 a1 k
  have ih0 := pomadelaw04_flipped.mono_l k
  unfold pomadelaw04_flipped.f
  repeat' first
      | (with_reducible exact ih0 _ _ _ _)
      | (with_reducible exact LeO.refl _)
      | (with_reducible exact LeO.none _)
      | (with_reducible refine LeO.ite ?_ ?_)
      | (with_reducible refine LeO.bind ?_ (fun _ => ?_))
      | exact ih0 _ _ _ _
      | exact LeO.none _
      | refine LeO.ite ?_ ?_
      | refine LeO.bind ?_ (fun _ => ?_)
def pomadelaw04_flipped.T10 : Bool × List (List Nat × List Nat) := (true, [([], []), ([], []), ([], []), ([1, 2], [1, 2]), ([], []), ([3, 4], [3, 4]), ([], []), ([], []), ([6, 7], [6, 7]), ([5, 8], [5, 8]), ([], []), ([0, 9, 0, 1, 2, 3, 4, 5, 6, 7, 8, 9, 10], [0, 9]), ([11, 10, 0, 1, 2, 3, 4, 5, 6, 7, 8, 9, 10], [10, 11])])
def pomadelaw04_flipped.B10 : List Nat := [0, 0, 0, 6, 0, 30, 0, 0, 192, 510, 0, 2047, 4095]
theorem pomadelaw04_flipped.tab10 : rtab .any (opsOf Tryd.f23 10) = pomadelaw04_flipped.T10 := by kernel_rfl
theorem pomadelaw04_flipped.bits10 : waitsOk pomadelaw04_flipped.T10.2 pomadelaw04_flipped.B10 = true := by kernel_rfl
set_option maxHeartbeats 8000000 in
set_option maxRecDepth 100000 in
theorem pomadelaw04_flipped.calls (k : Nat) (a0 : Int) (a1 : ByteArray) (r : ByteArray) (w : World) (h : pomadelaw04_flipped.f k a0 a1 = some r) :
    Calls Tryd.prog 23 #[.int .i64 a0, .string a1] w fun e w' => e = .returned (.string r) ∧ Below w.heap.size w w' := by
  have HB := Aside0.mk (Below.refl w.heap.size w)
  have H : (if 0 ≤ (a1.size : Int) then (if ((a1.size : Int) : Int).toNat ≤ 281474976710656 then (pomadelaw04_flipped.l0 k a0 a1 (List.replicate ((a1.size : Int) : Int).toNat 0) 0) else (none)) else (none)) = some r := h
  clear h
  by_cases c3 : 0 ≤ (a1.size : Int)
  · rw [if_pos c3] at H
    have c3b0 := eq_true c3
    have c3b1 : decide (0 ≤ (a1.size : Int)) = true := decide_eq_true c3
    clear c3
    by_cases c4 : ((a1.size : Int) : Int).toNat ≤ 281474976710656
    · rw [if_pos c4] at H
      have c4b0 := eq_true c4
      have c4b1 : decide (((a1.size : Int) : Int).toNat ≤ 281474976710656) = true := decide_eq_true c4
      clear c4
      obtain ⟨y234, hy234⟩ : ∃ y_ : List Int, y_ = (List.replicate ((a1.size : Int) : Int).toNat 0) := ⟨_, rfl⟩
      replace H : (pomadelaw04_flipped.l0 k a0 a1 y234 0) = some r := by first | (rw [hy234]; with_reducible exact H) | (have H2_ := (Option.bind_some _ _).symm.trans H; rw [hy234]; with_reducible exact H2_) | (have H2_ := (Option.bind_some _ _).symm.trans H; with_reducible exact H2_) | with_reducible exact H | (rw [hy234]; exact H) | exact H
      have Ny234 := Aside0.mk hy234
      clear hy234
      have H' := Aside0.mk H
      clear H
      go_enter Tryd.func23, Tryd.ntmps23
      go_wp2_with (first | ((with_reducible refine gate_dst (N := 10) rfl ?_); refine Kd.R_make (Kd.int .u8) _ 5 rfl (N := 10) rfl 60 _ _ rfl (a1.size : Int) rfl rfl Tryd.underlying60 (.int .u8 0) 1 info5 rfl (by decide) (by omega) 0 (ok := fun _ => True) (okp := fun _ => True) rfl (fun _ hk => hk) trivial (of_decide_eq_true (by first | (with_reducible assumption) | assumption)) (Nat.le_trans (Nat.mul_le_mul_right _ (of_decide_eq_true (by first | (with_reducible assumption) | assumption) : (a1.size : Int).toNat ≤ 281474976710656)) (by omega)) (Below.refl _ _) (Nat.le_refl _) ?_; intro v235 w5 ho6 hb hg_ hnew_; clear hg_ hnew_; (first | rw [← Ny234.out] at ho6 | (simp only [Int.reduceToNat] at ho6; rw [← Ny234.out] at ho6)); have n0_ := Aside0.mk (Kd.R_lower ho6 (below_size (by repeat (first | (with_reducible first | exact HB.out | apply below_alloc | apply pw_below_drewN | apply below_drew1) | exact HB.out)))); have n1_ := Aside0.mk (below_step (by repeat (first | (with_reducible first | exact HB.out | apply below_alloc | apply pw_below_drewN | apply below_drew1) | exact HB.out)) hb); clear HB; have HO236 := n0_; have HB := n1_; clear n0_ n1_; clear hb ho6))
      go_loopg [6] k (fun kq v6 w' => ∃ (x5_1 : List Int) (x6_1 : Int), v6 = .int .i64 x6_1 ∧ Aside0 (pomadelaw04_flipped.l0 kq a0 a1 x5_1 x6_1 = some r) ∧ Aside0 (kq ≤ k) ∧ Aside0 (Kd.R (Kd.int .u8) 5 w' w.heap.size (fun _ => True) v235 x5_1) ∧ Aside0 (Below w.heap.size w w'))
      case atStart => exact ⟨(y234), (0), (by first | rfl | (simp; done) | (simp [*]; done)), H', ⟨Nat.le_refl _⟩, ⟨by (with_reducible repeat (first | apply Kd.R_alloc | apply Kd.R_drewN | apply Kd.R_drew)); exact HO236.out⟩, ⟨by repeat (first | (with_reducible first | exact HB.out | apply below_alloc | apply pw_below_drewN | apply below_drew1) | exact HB.out)⟩⟩
      case round =>
        clear H'
        try clear c2
        try clear p2
        try clear c3
        try clear c3b0
        try clear c3b1
        try clear c4
        try clear c4b0
        try clear c4b1
        obtain ⟨x5_1, x6_1, rfl, HA, HK1, HO_5, HB⟩ := hrel
        cases gk with
        | zero => exact absurd HA.out (by simp [pomadelaw04_flipped.l0])
        | succ k1 =>
          have H := HA.out
          clear HA
          simp only [pomadelaw04_flipped.l0] at H
          by_cases c7 : x6_1 < (a1.size : Int)
          · rw [if_pos c7] at H
            have c7b0 : decide (x6_1 < (a1.size : Int)) = true := decide_eq_true c7
            clear c7
            by_cases c8 : 0 ≤ x6_1
            · rw [if_pos c8] at H
              have c8b0 : decide (0 ≤ x6_1) = true := decide_eq_true c8
              clear c8
              by_cases c10 : (bt a1 x6_1) = 120
              · rw [if_pos c10] at H
                have c10b0 : ((bt a1 x6_1) == 120) = true := beq_iff_eq.mpr c10
                have c10b1 : ((bt a1 x6_1) != 120) = false := bne_eq_false_iff_eq.mpr c10
                clear c10
                by_cases c11 : a0 = 0
                · rw [if_pos c11] at H
                  exact absurd H (by simp)
                · rw [if_neg c11] at H
                  have c11b0 : (a0 == 0) = false := beq_eq_false_iff_ne.mpr c11
                  have c11b1 : (a0 != 0) = true := bne_iff_ne.mpr c11
                  obtain ⟨ji12, hji12⟩ : ∃ j_ : Int, (wrap64 ((wrap64 ((Int.tmod x6_1 a0) * a0)) + (wrap64 (Int.tdiv x6_1 a0)))) = j_ := ⟨_, rfl⟩
                  replace H : (if 0 ≤ (ji12) then (if (ji12) < (x5_1.length : Int) then (pomadelaw04_flipped.l0 k1 a0 a1 (x5_1.set ((ji12) : Int).toNat 111) (wrap64 (x6_1 + 1))) else (none)) else (none)) = some r := by first | (rw [hji12] at H; exact H) | (simp only [hji12] at H ⊢; exact H)
                  have hji12w : (IntKind.i64.wrap ((wrap64 ((Int.tmod x6_1 a0) * a0)) + (wrap64 (Int.tdiv x6_1 a0)))) = ji12 := (i64_w _).trans hji12
                  by_cases c13 : 0 ≤ (ji12)
                  · rw [if_pos c13] at H
                    have c13b0 : decide (0 ≤ (ji12)) = true := decide_eq_true c13
                    clear c13
                    by_cases c14 : (ji12) < (x5_1.length : Int)
                    · rw [if_pos c14] at H
                      have c14b0 : decide ((ji12) < (x5_1.length : Int)) = true := decide_eq_true c14
                      clear c14
                      obtain ⟨y237, hy237⟩ : ∃ y_ : List Int, y_ = (x5_1.set ((ji12) : Int).toNat 111) := ⟨_, rfl⟩
                      replace H : (pomadelaw04_flipped.l0 k1 a0 a1 y237 (wrap64 (x6_1 + 1))) = some r := by first | (rw [hy237]; with_reducible exact H) | (have H2_ := (Option.bind_some _ _).symm.trans H; rw [hy237]; with_reducible exact H2_) | (have H2_ := (Option.bind_some _ _).symm.trans H; with_reducible exact H2_) | with_reducible exact H | (rw [hy237]; exact H) | exact H
                      have Ny237 := Aside0.mk hy237
                      clear hy237
                      have H' := Aside0.mk H
                      clear H
                      have p9 : 0 ≤ (x6_1 : Int) := of_decide_eq_true (by first | (with_reducible assumption) | assumption)
                      have q9 : x6_1 < (a1.size : Int) := of_decide_eq_true (by first | (with_reducible assumption) | assumption)
                      have hx9 := bt_at a1 x6_1
                      replace p9 := eq_true p9
                      replace q9 := eq_true q9
                      try go_wp2
                      have n0_ := Aside0.mk (Kd.R_drew HO_5.out)
                      have n1_ := Aside0.mk (below_drew1 HB.out)
                      clear HO_5
                      clear HB
                      have HO_5 := n0_
                      have HB := n1_
                      clear n0_ n1_
                      have p15 : 0 ≤ ((ji12) : Int) := of_decide_eq_true (by first | (with_reducible assumption) | assumption)
                      have q15 : ((ji12) : Int) < ((x5_1.length : Int) : Int) := of_decide_eq_true (by first | (with_reducible assumption) | assumption)
                      obtain ⟨go15, co15, eo15, gb15, gl15, cl15, HG15⟩ := Kd.R_form HO_5.out (by omega)
                      (first | cases eo15 | (injection eo15 with ea_ en_ ec_; (first | subst ea_ | (injection ea_ with ea_; subst ea_)); subst ec_; clear en_))
                      have GB15 := Aside0.mk gb15
                      have GG15 := Aside0.mk HG15
                      clear gb15 gl15 HG15
                      obtain ⟨hx15_0, hf15_0⟩ := Kd.R_celln 0 HO_5.out ((ji12) : Int) p15 q15
                      replace p15 := eq_true p15
                      replace q15 := eq_true q15
                      have HP17 := Kd.R_putn HO_5.out ((ji12) : Int) 111
                      rw [← Ny237.out] at HP17
                      have HQ17 := Aside0.mk HP17
                      clear HP17
                      refine start_ (n := 13) (S := fun w' => True) (ds := [12]) #[false, false, false, false, false, false, false, false, false, false, false, false, false] (by kernel_rfl) rfl rfl trivial (fun hHeld => ?_); refine with_tabW pomadelaw04_flipped.tab10 pomadelaw04_flipped.bits10 (fun HT_ HW_ => ?_)
                      generalize wr.drew = w16 at HO_5 HB GG15 HQ17 hf15_0 hx15_0 hHeld ⊢
                      refine pure_ (i := 0) (N := some 24) (v := ?_) (a' := ?_) #[true, false, false, false, false, false, false, false, false, false, false, false, false] rfl rfl (any_of HT_.out (by kernel_rfl)) (fun _ _ _ h => h) (Or.inl ⟨by rfl, ?_⟩) ?_ ?_
                      rotate_left
                      · intro w'
                        go_simp
                        with_reducible rfl
                      rotate_left
                      · simp only [Act.put, List.setIfInBounds_toArray, List.set_cons_zero, List.set_cons_succ, i64_w, i32_w]
                        rfl
                      refine pure_ (i := 1) (N := some 25) (v := ?_) (a' := ?_) #[true, true, false, false, false, false, false, false, false, false, false, false, false] rfl rfl (any_of HT_.out (by kernel_rfl)) (fun _ _ _ h => h) (Or.inl ⟨by rfl, ?_⟩) ?_ ?_
                      rotate_left
                      · intro w'
                        go_simp
                        with_reducible rfl
                      rotate_left
                      · simp only [Act.put, List.setIfInBounds_toArray, List.set_cons_zero, List.set_cons_succ, i64_w, i32_w]
                        rfl
                      refine pure_ (i := 2) (N := some 26) (v := ?_) (a' := ?_) #[true, true, true, false, false, false, false, false, false, false, false, false, false] rfl rfl (any_of HT_.out (by kernel_rfl)) (fun _ _ _ h => h) (Or.inl ⟨by rfl, ?_⟩) ?_ ?_
                      rotate_left
                      · intro w'
                        go_simp
                        with_reducible rfl
                      rotate_left
                      · simp only [Act.put, List.setIfInBounds_toArray, List.set_cons_zero, List.set_cons_succ, i64_w, i32_w]
                        rfl
                      refine pure_ (i := 3) (N := some 27) (v := ?_) (a' := ?_) #[true, true, true, true, false, false, false, false, false, false, false, false, false] rfl rfl (any_of HT_.out (by kernel_rfl)) (fun _ _ _ h => h) (Or.inl ⟨by rfl, ?_⟩) ?_ ?_
                      rotate_left
                      · intro w'
                        go_simp
                        with_reducible rfl
                      rotate_left
                      · simp only [Act.put, List.setIfInBounds_toArray, List.set_cons_zero, List.set_cons_succ, i64_w, i32_w]
                        rfl
                      refine pure_ (i := 4) (N := some 28) (v := ?_) (a' := ?_) #[true, true, true, true, true, false, false, false, false, false, false, false, false] rfl rfl (any_of HT_.out (by kernel_rfl)) (fun _ _ _ h => h) (Or.inl ⟨by rfl, ?_⟩) ?_ ?_
                      rotate_left
                      · intro w'
                        go_simp
                        with_reducible rfl
                      rotate_left
                      · simp only [Act.put, List.setIfInBounds_toArray, List.set_cons_zero, List.set_cons_succ, i64_w, i32_w]
                        rfl
                      refine pure_ (i := 5) (N := some 29) (v := ?_) (a' := ?_) #[true, true, true, true, true, true, false, false, false, false, false, false, false] rfl rfl (any_of HT_.out (by kernel_rfl)) (fun _ _ _ h => h) (Or.inl ⟨by rfl, ?_⟩) ?_ ?_
                      rotate_left
                      · intro w'
                        go_simp
                        with_reducible rfl
                      rotate_left
                      · simp only [Act.put, List.setIfInBounds_toArray, List.set_cons_zero, List.set_cons_succ, i64_w, i32_w]
                        rfl
                      refine pure_ (i := 6) (N := some 30) (v := ?_) (a' := ?_) #[true, true, true, true, true, true, true, false, false, false, false, false, false] rfl rfl (any_of HT_.out (by kernel_rfl)) (fun _ _ _ h => h) (Or.inl ⟨by rfl, ?_⟩) ?_ ?_
                      rotate_left
                      · intro w'
                        go_simp
                        with_reducible rfl
                      rotate_left
                      · simp only [Act.put, List.setIfInBounds_toArray, List.set_cons_zero, List.set_cons_succ, i64_w, i32_w]
                        rfl
                      refine pure_ (i := 7) (N := some 31) (v := ?_) (a' := ?_) #[true, true, true, true, true, true, true, true, false, false, false, false, false] rfl rfl (any_of HT_.out (by kernel_rfl)) (fun _ _ _ h => h) (Or.inl ⟨by rfl, ?_⟩) ?_ ?_
                      rotate_left
                      · intro w'
                        go_simp
                        with_reducible rfl
                      rotate_left
                      · simp only [Act.put, List.setIfInBounds_toArray, List.set_cons_zero, List.set_cons_succ, i64_w, i32_w]
                        rfl
                      refine pure_ (i := 8) (N := some 32) (v := ?_) (a' := ?_) #[true, true, true, true, true, true, true, true, true, false, false, false, false] rfl rfl (any_of HT_.out (by kernel_rfl)) (fun _ _ _ h => h) (Or.inl ⟨by rfl, ?_⟩) ?_ ?_
                      rotate_left
                      · intro w'
                        go_simp
                        with_reducible rfl
                      rotate_left
                      · simp only [Act.put, List.setIfInBounds_toArray, List.set_cons_zero, List.set_cons_succ, i64_w, i32_w]
                        rfl
                      refine pure_ (i := 9) (N := some 33) (v := ?_) (a' := ?_) #[true, true, true, true, true, true, true, true, true, true, false, false, false] rfl rfl (any_of HT_.out (by kernel_rfl)) (fun _ _ _ h => h) (Or.inl ⟨by rfl, ?_⟩) ?_ ?_
                      rotate_left
                      · intro w'
                        go_simp
                        with_reducible rfl
                      rotate_left
                      · simp only [Act.put, List.setIfInBounds_toArray, List.set_cons_zero, List.set_cons_succ, i64_w, i32_w]
                        rfl
                      refine pure_ (i := 10) (N := some 34) (v := ?_) (a' := ?_) #[true, true, true, true, true, true, true, true, true, true, true, false, false] rfl rfl (any_of HT_.out (by kernel_rfl)) (fun _ _ _ h => h) (Or.inl ⟨by rfl, ?_⟩) ?_ ?_
                      rotate_left
                      · intro w'
                        go_simp
                        with_reducible rfl
                      rotate_left
                      · simp only [Act.put, List.setIfInBounds_toArray, List.set_cons_zero, List.set_cons_succ, i64_w, i32_w]
                        rfl
                      refine pure_ (i := 11) (N := some 35) (v := ?_) (a' := ?_) #[true, true, true, true, true, true, true, true, true, true, true, true, false] rfl rfl (any_of HT_.out (by kernel_rfl)) (fun _ _ _ h => h) (Or.inl ⟨by rfl, ?_⟩) ?_ ?_
                      rotate_left
                      · intro w'
                        go_simp
                        with_reducible rfl
                      rotate_left
                      · simp only [Act.put, List.setIfInBounds_toArray, List.set_cons_zero, List.set_cons_succ, i64_w, i32_w]
                        rfl
                      refine last_ (i := 12) (N := none) #[true, true, true, true, true, true, true, true, true, true, true, true, true] rfl rfl (one_of HT_.out (by kernel_rfl)) (by decide) (fun K hK => ?_)
                      refine skip_ (w1 := ?_) (by rfl) rfl ?_ ?_
                      rotate_left
                      · go_simp
                        rfl
                      refine hK.out _ _ ?_
                      clear hK K
                      refine done_ (done_of HT_.out (by kernel_rfl)) ?_
                      try go_wp2
                      go_roundg k1
                      case measure => have := HK1.out; omega
                      case rel => exact ⟨(y237), (wrap64 (x6_1 + 1)), (by first | rfl | (simp; done) | (simp [*]; done)), H', ⟨by have := HK1.out; omega⟩, ⟨by (with_reducible repeat (first | apply Kd.R_alloc | apply Kd.R_drewN | apply Kd.R_drew)); exact HQ17.out⟩, ⟨by repeat (first | (with_reducible first | exact HB.out | apply below_alloc | apply pw_below_drewN | apply below_drew1 | refine below_set ?_ GB15.out) | exact HB.out)⟩⟩
                    · rw [if_neg c14] at H
                      exact absurd H (by simp)
                  · rw [if_neg c13] at H
                    exact absurd H (by simp)
              · rw [if_neg c10] at H
                have c10b0 : ((bt a1 x6_1) == 120) = false := beq_eq_false_iff_ne.mpr c10
                have c10b1 : ((bt a1 x6_1) != 120) = true := bne_iff_ne.mpr c10
                by_cases c18 : (bt a1 x6_1) = 111
                · rw [if_pos c18] at H
                  have c18b0 : ((bt a1 x6_1) == 111) = true := beq_iff_eq.mpr c18
                  have c18b1 : ((bt a1 x6_1) != 111) = false := bne_eq_false_iff_eq.mpr c18
                  clear c18
                  by_cases c19 : a0 = 0
                  · rw [if_pos c19] at H
                    exact absurd H (by simp)
                  · rw [if_neg c19] at H
                    have c19b0 : (a0 == 0) = false := beq_eq_false_iff_ne.mpr c19
                    have c19b1 : (a0 != 0) = true := bne_iff_ne.mpr c19
                    obtain ⟨ji20, hji20⟩ : ∃ j_ : Int, (wrap64 ((wrap64 ((Int.tmod x6_1 a0) * a0)) + (wrap64 (Int.tdiv x6_1 a0)))) = j_ := ⟨_, rfl⟩
                    replace H : (if 0 ≤ (ji20) then (if (ji20) < (x5_1.length : Int) then (pomadelaw04_flipped.l0 k1 a0 a1 (x5_1.set ((ji20) : Int).toNat 120) (wrap64 (x6_1 + 1))) else (none)) else (none)) = some r := by first | (rw [hji20] at H; exact H) | (simp only [hji20] at H ⊢; exact H)
                    have hji20w : (IntKind.i64.wrap ((wrap64 ((Int.tmod x6_1 a0) * a0)) + (wrap64 (Int.tdiv x6_1 a0)))) = ji20 := (i64_w _).trans hji20
                    by_cases c21 : 0 ≤ (ji20)
                    · rw [if_pos c21] at H
                      have c21b0 : decide (0 ≤ (ji20)) = true := decide_eq_true c21
                      clear c21
                      by_cases c22 : (ji20) < (x5_1.length : Int)
                      · rw [if_pos c22] at H
                        have c22b0 : decide ((ji20) < (x5_1.length : Int)) = true := decide_eq_true c22
                        clear c22
                        obtain ⟨y238, hy238⟩ : ∃ y_ : List Int, y_ = (x5_1.set ((ji20) : Int).toNat 120) := ⟨_, rfl⟩
                        replace H : (pomadelaw04_flipped.l0 k1 a0 a1 y238 (wrap64 (x6_1 + 1))) = some r := by first | (rw [hy238]; with_reducible exact H) | (have H2_ := (Option.bind_some _ _).symm.trans H; rw [hy238]; with_reducible exact H2_) | (have H2_ := (Option.bind_some _ _).symm.trans H; with_reducible exact H2_) | with_reducible exact H | (rw [hy238]; exact H) | exact H
                        have Ny238 := Aside0.mk hy238
                        clear hy238
                        have H' := Aside0.mk H
                        clear H
                        have p9 : 0 ≤ (x6_1 : Int) := of_decide_eq_true (by first | (with_reducible assumption) | assumption)
                        have q9 : x6_1 < (a1.size : Int) := of_decide_eq_true (by first | (with_reducible assumption) | assumption)
                        have hx9 := bt_at a1 x6_1
                        replace p9 := eq_true p9
                        replace q9 := eq_true q9
                        try go_wp2
                        have n0_ := Aside0.mk (Kd.R_drew HO_5.out)
                        have n1_ := Aside0.mk (below_drew1 HB.out)
                        clear HO_5
                        clear HB
                        have HO_5 := n0_
                        have HB := n1_
                        clear n0_ n1_
                        have p23 : 0 ≤ ((ji20) : Int) := of_decide_eq_true (by first | (with_reducible assumption) | assumption)
                        have q23 : ((ji20) : Int) < ((x5_1.length : Int) : Int) := of_decide_eq_true (by first | (with_reducible assumption) | assumption)
                        obtain ⟨go23, co23, eo23, gb23, gl23, cl23, HG23⟩ := Kd.R_form HO_5.out (by omega)
                        (first | cases eo23 | (injection eo23 with ea_ en_ ec_; (first | subst ea_ | (injection ea_ with ea_; subst ea_)); subst ec_; clear en_))
                        have GB23 := Aside0.mk gb23
                        have GG23 := Aside0.mk HG23
                        clear gb23 gl23 HG23
                        obtain ⟨hx23_0, hf23_0⟩ := Kd.R_celln 0 HO_5.out ((ji20) : Int) p23 q23
                        replace p23 := eq_true p23
                        replace q23 := eq_true q23
                        have HP25 := Kd.R_putn HO_5.out ((ji20) : Int) 120
                        rw [← Ny238.out] at HP25
                        have HQ25 := Aside0.mk HP25
                        clear HP25
                        refine start_ (n := 13) (S := fun w' => True) (ds := [12]) #[false, false, false, false, false, false, false, false, false, false, false, false, false] (by kernel_rfl) rfl rfl trivial (fun hHeld => ?_); refine with_tabW pomadelaw04_flipped.tab10 pomadelaw04_flipped.bits10 (fun HT_ HW_ => ?_)
                        generalize wr.drew = w24 at HO_5 HB GG23 HQ25 hf23_0 hx23_0 hHeld ⊢
                        refine pure_ (i := 0) (N := some 24) (v := ?_) (a' := ?_) #[true, false, false, false, false, false, false, false, false, false, false, false, false] rfl rfl (any_of HT_.out (by kernel_rfl)) (fun _ _ _ h => h) (Or.inl ⟨by rfl, ?_⟩) ?_ ?_
                        rotate_left
                        · intro w'
                          go_simp
                          with_reducible rfl
                        rotate_left
                        · simp only [Act.put, List.setIfInBounds_toArray, List.set_cons_zero, List.set_cons_succ, i64_w, i32_w]
                          rfl
                        refine pure_ (i := 1) (N := some 25) (v := ?_) (a' := ?_) #[true, true, false, false, false, false, false, false, false, false, false, false, false] rfl rfl (any_of HT_.out (by kernel_rfl)) (fun _ _ _ h => h) (Or.inl ⟨by rfl, ?_⟩) ?_ ?_
                        rotate_left
                        · intro w'
                          go_simp
                          with_reducible rfl
                        rotate_left
                        · simp only [Act.put, List.setIfInBounds_toArray, List.set_cons_zero, List.set_cons_succ, i64_w, i32_w]
                          rfl
                        refine pure_ (i := 2) (N := some 26) (v := ?_) (a' := ?_) #[true, true, true, false, false, false, false, false, false, false, false, false, false] rfl rfl (any_of HT_.out (by kernel_rfl)) (fun _ _ _ h => h) (Or.inl ⟨by rfl, ?_⟩) ?_ ?_
                        rotate_left
                        · intro w'
                          go_simp
                          with_reducible rfl
                        rotate_left
                        · simp only [Act.put, List.setIfInBounds_toArray, List.set_cons_zero, List.set_cons_succ, i64_w, i32_w]
                          rfl
                        refine pure_ (i := 3) (N := some 27) (v := ?_) (a' := ?_) #[true, true, true, true, false, false, false, false, false, false, false, false, false] rfl rfl (any_of HT_.out (by kernel_rfl)) (fun _ _ _ h => h) (Or.inl ⟨by rfl, ?_⟩) ?_ ?_
                        rotate_left
                        · intro w'
                          go_simp
                          with_reducible rfl
                        rotate_left
                        · simp only [Act.put, List.setIfInBounds_toArray, List.set_cons_zero, List.set_cons_succ, i64_w, i32_w]
                          rfl
                        refine pure_ (i := 4) (N := some 28) (v := ?_) (a' := ?_) #[true, true, true, true, true, false, false, false, false, false, false, false, false] rfl rfl (any_of HT_.out (by kernel_rfl)) (fun _ _ _ h => h) (Or.inl ⟨by rfl, ?_⟩) ?_ ?_
                        rotate_left
                        · intro w'
                          go_simp
                          with_reducible rfl
                        rotate_left
                        · simp only [Act.put, List.setIfInBounds_toArray, List.set_cons_zero, List.set_cons_succ, i64_w, i32_w]
                          rfl
                        refine pure_ (i := 5) (N := some 29) (v := ?_) (a' := ?_) #[true, true, true, true, true, true, false, false, false, false, false, false, false] rfl rfl (any_of HT_.out (by kernel_rfl)) (fun _ _ _ h => h) (Or.inl ⟨by rfl, ?_⟩) ?_ ?_
                        rotate_left
                        · intro w'
                          go_simp
                          with_reducible rfl
                        rotate_left
                        · simp only [Act.put, List.setIfInBounds_toArray, List.set_cons_zero, List.set_cons_succ, i64_w, i32_w]
                          rfl
                        refine pure_ (i := 6) (N := some 30) (v := ?_) (a' := ?_) #[true, true, true, true, true, true, true, false, false, false, false, false, false] rfl rfl (any_of HT_.out (by kernel_rfl)) (fun _ _ _ h => h) (Or.inl ⟨by rfl, ?_⟩) ?_ ?_
                        rotate_left
                        · intro w'
                          go_simp
                          with_reducible rfl
                        rotate_left
                        · simp only [Act.put, List.setIfInBounds_toArray, List.set_cons_zero, List.set_cons_succ, i64_w, i32_w]
                          rfl
                        refine pure_ (i := 7) (N := some 31) (v := ?_) (a' := ?_) #[true, true, true, true, true, true, true, true, false, false, false, false, false] rfl rfl (any_of HT_.out (by kernel_rfl)) (fun _ _ _ h => h) (Or.inl ⟨by rfl, ?_⟩) ?_ ?_
                        rotate_left
                        · intro w'
                          go_simp
                          with_reducible rfl
                        rotate_left
                        · simp only [Act.put, List.setIfInBounds_toArray, List.set_cons_zero, List.set_cons_succ, i64_w, i32_w]
                          rfl
                        refine pure_ (i := 8) (N := some 32) (v := ?_) (a' := ?_) #[true, true, true, true, true, true, true, true, true, false, false, false, false] rfl rfl (any_of HT_.out (by kernel_rfl)) (fun _ _ _ h => h) (Or.inl ⟨by rfl, ?_⟩) ?_ ?_
                        rotate_left
                        · intro w'
                          go_simp
                          with_reducible rfl
                        rotate_left
                        · simp only [Act.put, List.setIfInBounds_toArray, List.set_cons_zero, List.set_cons_succ, i64_w, i32_w]
                          rfl
                        refine pure_ (i := 9) (N := some 33) (v := ?_) (a' := ?_) #[true, true, true, true, true, true, true, true, true, true, false, false, false] rfl rfl (any_of HT_.out (by kernel_rfl)) (fun _ _ _ h => h) (Or.inl ⟨by rfl, ?_⟩) ?_ ?_
                        rotate_left
                        · intro w'
                          go_simp
                          with_reducible rfl
                        rotate_left
                        · simp only [Act.put, List.setIfInBounds_toArray, List.set_cons_zero, List.set_cons_succ, i64_w, i32_w]
                          rfl
                        refine pure_ (i := 10) (N := some 34) (v := ?_) (a' := ?_) #[true, true, true, true, true, true, true, true, true, true, true, false, false] rfl rfl (any_of HT_.out (by kernel_rfl)) (fun _ _ _ h => h) (Or.inl ⟨by rfl, ?_⟩) ?_ ?_
                        rotate_left
                        · intro w'
                          go_simp
                          with_reducible rfl
                        rotate_left
                        · simp only [Act.put, List.setIfInBounds_toArray, List.set_cons_zero, List.set_cons_succ, i64_w, i32_w]
                          rfl
                        refine pure_ (i := 11) (N := some 35) (v := ?_) (a' := ?_) #[true, true, true, true, true, true, true, true, true, true, true, true, false] rfl rfl (any_of HT_.out (by kernel_rfl)) (fun _ _ _ h => h) (Or.inl ⟨by rfl, ?_⟩) ?_ ?_
                        rotate_left
                        · intro w'
                          go_simp
                          with_reducible rfl
                        rotate_left
                        · simp only [Act.put, List.setIfInBounds_toArray, List.set_cons_zero, List.set_cons_succ, i64_w, i32_w]
                          rfl
                        refine last_ (i := 12) (N := none) #[true, true, true, true, true, true, true, true, true, true, true, true, true] rfl rfl (one_of HT_.out (by kernel_rfl)) (by decide) (fun K hK => ?_)
                        refine skip_ (w1 := ?_) (by rfl) rfl ?_ ?_
                        rotate_left
                        · go_simp
                          rfl
                        refine hK.out _ _ ?_
                        clear hK K
                        refine done_ (done_of HT_.out (by kernel_rfl)) ?_
                        try go_wp2
                        go_roundg k1
                        case measure => have := HK1.out; omega
                        case rel => exact ⟨(y238), (wrap64 (x6_1 + 1)), (by first | rfl | (simp; done) | (simp [*]; done)), H', ⟨by have := HK1.out; omega⟩, ⟨by (with_reducible repeat (first | apply Kd.R_alloc | apply Kd.R_drewN | apply Kd.R_drew)); exact HQ25.out⟩, ⟨by repeat (first | (with_reducible first | exact HB.out | apply below_alloc | apply pw_below_drewN | apply below_drew1 | refine below_set ?_ GB23.out) | exact HB.out)⟩⟩
                      · rw [if_neg c22] at H
                        exact absurd H (by simp)
                    · rw [if_neg c21] at H
                      exact absurd H (by simp)
                · rw [if_neg c18] at H
                  have c18b0 : ((bt a1 x6_1) == 111) = false := beq_eq_false_iff_ne.mpr c18
                  have c18b1 : ((bt a1 x6_1) != 111) = true := bne_iff_ne.mpr c18
                  by_cases c26 : a0 = 0
                  · rw [if_pos c26] at H
                    exact absurd H (by simp)
                  · rw [if_neg c26] at H
                    have c26b0 : (a0 == 0) = false := beq_eq_false_iff_ne.mpr c26
                    have c26b1 : (a0 != 0) = true := bne_iff_ne.mpr c26
                    obtain ⟨ji27, hji27⟩ : ∃ j_ : Int, (wrap64 ((wrap64 ((Int.tmod x6_1 a0) * a0)) + (wrap64 (Int.tdiv x6_1 a0)))) = j_ := ⟨_, rfl⟩
                    replace H : (if 0 ≤ (ji27) then (if (ji27) < (x5_1.length : Int) then (pomadelaw04_flipped.l0 k1 a0 a1 (x5_1.set ((ji27) : Int).toNat (bt a1 x6_1)) (wrap64 (x6_1 + 1))) else (none)) else (none)) = some r := by first | (rw [hji27] at H; exact H) | (simp only [hji27] at H ⊢; exact H)
                    have hji27w : (IntKind.i64.wrap ((wrap64 ((Int.tmod x6_1 a0) * a0)) + (wrap64 (Int.tdiv x6_1 a0)))) = ji27 := (i64_w _).trans hji27
                    by_cases c28 : 0 ≤ (ji27)
                    · rw [if_pos c28] at H
                      have c28b0 : decide (0 ≤ (ji27)) = true := decide_eq_true c28
                      clear c28
                      by_cases c29 : (ji27) < (x5_1.length : Int)
                      · rw [if_pos c29] at H
                        have c29b0 : decide ((ji27) < (x5_1.length : Int)) = true := decide_eq_true c29
                        clear c29
                        obtain ⟨y239, hy239⟩ : ∃ y_ : List Int, y_ = (x5_1.set ((ji27) : Int).toNat (bt a1 x6_1)) := ⟨_, rfl⟩
                        replace H : (pomadelaw04_flipped.l0 k1 a0 a1 y239 (wrap64 (x6_1 + 1))) = some r := by first | (rw [hy239]; with_reducible exact H) | (have H2_ := (Option.bind_some _ _).symm.trans H; rw [hy239]; with_reducible exact H2_) | (have H2_ := (Option.bind_some _ _).symm.trans H; with_reducible exact H2_) | with_reducible exact H | (rw [hy239]; exact H) | exact H
                        have Ny239 := Aside0.mk hy239
                        clear hy239
                        have H' := Aside0.mk H
                        clear H
                        have p9 : 0 ≤ (x6_1 : Int) := of_decide_eq_true (by first | (with_reducible assumption) | assumption)
                        have q9 : x6_1 < (a1.size : Int) := of_decide_eq_true (by first | (with_reducible assumption) | assumption)
                        have hx9 := bt_at a1 x6_1
                        replace p9 := eq_true p9
                        replace q9 := eq_true q9
                        try go_wp2
                        have n0_ := Aside0.mk (Kd.R_drew HO_5.out)
                        have n1_ := Aside0.mk (below_drew1 HB.out)
                        clear HO_5
                        clear HB
                        have HO_5 := n0_
                        have HB := n1_
                        clear n0_ n1_
                        have p30 : 0 ≤ ((ji27) : Int) := of_decide_eq_true (by first | (with_reducible assumption) | assumption)
                        have q30 : ((ji27) : Int) < ((x5_1.length : Int) : Int) := of_decide_eq_true (by first | (with_reducible assumption) | assumption)
                        obtain ⟨go30, co30, eo30, gb30, gl30, cl30, HG30⟩ := Kd.R_form HO_5.out (by omega)
                        (first | cases eo30 | (injection eo30 with ea_ en_ ec_; (first | subst ea_ | (injection ea_ with ea_; subst ea_)); subst ec_; clear en_))
                        have GB30 := Aside0.mk gb30
                        have GG30 := Aside0.mk HG30
                        clear gb30 gl30 HG30
                        obtain ⟨hx30_0, hf30_0⟩ := Kd.R_celln 0 HO_5.out ((ji27) : Int) p30 q30
                        replace p30 := eq_true p30
                        replace q30 := eq_true q30
                        have HP32 := Kd.R_putn HO_5.out ((ji27) : Int) (bt a1 x6_1)
                        rw [← Ny239.out] at HP32
                        have HQ32 := Aside0.mk HP32
                        clear HP32
                        refine start_ (n := 13) (S := fun w' => True) (ds := [12]) #[false, false, false, false, false, false, false, false, false, false, false, false, false] (by kernel_rfl) rfl rfl trivial (fun hHeld => ?_); refine with_tabW pomadelaw04_flipped.tab10 pomadelaw04_flipped.bits10 (fun HT_ HW_ => ?_)
                        generalize wr.drew = w31 at HO_5 HB GG30 HQ32 hf30_0 hx30_0 hHeld ⊢
                        refine pure_ (i := 0) (N := some 24) (v := ?_) (a' := ?_) #[true, false, false, false, false, false, false, false, false, false, false, false, false] rfl rfl (any_of HT_.out (by kernel_rfl)) (fun _ _ _ h => h) (Or.inl ⟨by rfl, ?_⟩) ?_ ?_
                        rotate_left
                        · intro w'
                          go_simp
                          with_reducible rfl
                        rotate_left
                        · simp only [Act.put, List.setIfInBounds_toArray, List.set_cons_zero, List.set_cons_succ, i64_w, i32_w]
                          rfl
                        refine pure_ (i := 1) (N := some 25) (v := ?_) (a' := ?_) #[true, true, false, false, false, false, false, false, false, false, false, false, false] rfl rfl (any_of HT_.out (by kernel_rfl)) (fun _ _ _ h => h) (Or.inl ⟨by rfl, ?_⟩) ?_ ?_
                        rotate_left
                        · intro w'
                          go_simp
                          with_reducible rfl
                        rotate_left
                        · simp only [Act.put, List.setIfInBounds_toArray, List.set_cons_zero, List.set_cons_succ, i64_w, i32_w]
                          rfl
                        refine pure_ (i := 2) (N := some 26) (v := ?_) (a' := ?_) #[true, true, true, false, false, false, false, false, false, false, false, false, false] rfl rfl (any_of HT_.out (by kernel_rfl)) (fun _ _ _ h => h) (Or.inl ⟨by rfl, ?_⟩) ?_ ?_
                        rotate_left
                        · intro w'
                          go_simp
                          with_reducible rfl
                        rotate_left
                        · simp only [Act.put, List.setIfInBounds_toArray, List.set_cons_zero, List.set_cons_succ, i64_w, i32_w]
                          rfl
                        refine pure_ (i := 3) (N := some 27) (v := ?_) (a' := ?_) #[true, true, true, true, false, false, false, false, false, false, false, false, false] rfl rfl (any_of HT_.out (by kernel_rfl)) (fun _ _ _ h => h) (Or.inl ⟨by rfl, ?_⟩) ?_ ?_
                        rotate_left
                        · intro w'
                          go_simp
                          with_reducible rfl
                        rotate_left
                        · simp only [Act.put, List.setIfInBounds_toArray, List.set_cons_zero, List.set_cons_succ, i64_w, i32_w]
                          rfl
                        refine pure_ (i := 4) (N := some 28) (v := ?_) (a' := ?_) #[true, true, true, true, true, false, false, false, false, false, false, false, false] rfl rfl (any_of HT_.out (by kernel_rfl)) (fun _ _ _ h => h) (Or.inl ⟨by rfl, ?_⟩) ?_ ?_
                        rotate_left
                        · intro w'
                          go_simp
                          with_reducible rfl
                        rotate_left
                        · simp only [Act.put, List.setIfInBounds_toArray, List.set_cons_zero, List.set_cons_succ, i64_w, i32_w]
                          rfl
                        refine pure_ (i := 5) (N := some 29) (v := ?_) (a' := ?_) #[true, true, true, true, true, true, false, false, false, false, false, false, false] rfl rfl (any_of HT_.out (by kernel_rfl)) (fun _ _ _ h => h) (Or.inl ⟨by rfl, ?_⟩) ?_ ?_
                        rotate_left
                        · intro w'
                          go_simp
                          with_reducible rfl
                        rotate_left
                        · simp only [Act.put, List.setIfInBounds_toArray, List.set_cons_zero, List.set_cons_succ, i64_w, i32_w]
                          rfl
                        refine pure_ (i := 6) (N := some 30) (v := ?_) (a' := ?_) #[true, true, true, true, true, true, true, false, false, false, false, false, false] rfl rfl (any_of HT_.out (by kernel_rfl)) (fun _ _ _ h => h) (Or.inl ⟨by rfl, ?_⟩) ?_ ?_
                        rotate_left
                        · intro w'
                          go_simp
                          with_reducible rfl
                        rotate_left
                        · simp only [Act.put, List.setIfInBounds_toArray, List.set_cons_zero, List.set_cons_succ, i64_w, i32_w]
                          rfl
                        refine pure_ (i := 7) (N := some 31) (v := ?_) (a' := ?_) #[true, true, true, true, true, true, true, true, false, false, false, false, false] rfl rfl (any_of HT_.out (by kernel_rfl)) (fun _ _ _ h => h) (Or.inl ⟨by rfl, ?_⟩) ?_ ?_
                        rotate_left
                        · intro w'
                          go_simp
                          with_reducible rfl
                        rotate_left
                        · simp only [Act.put, List.setIfInBounds_toArray, List.set_cons_zero, List.set_cons_succ, i64_w, i32_w]
                          rfl
                        refine pure_ (i := 8) (N := some 32) (v := ?_) (a' := ?_) #[true, true, true, true, true, true, true, true, true, false, false, false, false] rfl rfl (any_of HT_.out (by kernel_rfl)) (fun _ _ _ h => h) (Or.inl ⟨by rfl, ?_⟩) ?_ ?_
                        rotate_left
                        · intro w'
                          go_simp
                          with_reducible rfl
                        rotate_left
                        · simp only [Act.put, List.setIfInBounds_toArray, List.set_cons_zero, List.set_cons_succ, i64_w, i32_w]
                          rfl
                        refine pure_ (i := 9) (N := some 33) (v := ?_) (a' := ?_) #[true, true, true, true, true, true, true, true, true, true, false, false, false] rfl rfl (any_of HT_.out (by kernel_rfl)) (fun _ _ _ h => h) (Or.inl ⟨by rfl, ?_⟩) ?_ ?_
                        rotate_left
                        · intro w'
                          go_simp
                          with_reducible rfl
                        rotate_left
                        · simp only [Act.put, List.setIfInBounds_toArray, List.set_cons_zero, List.set_cons_succ, i64_w, i32_w]
                          rfl
                        refine pure_ (i := 10) (N := some 34) (v := ?_) (a' := ?_) #[true, true, true, true, true, true, true, true, true, true, true, false, false] rfl rfl (any_of HT_.out (by kernel_rfl)) (fun _ _ _ h => h) (Or.inl ⟨by rfl, ?_⟩) ?_ ?_
                        rotate_left
                        · intro w'
                          go_simp
                          with_reducible rfl
                        rotate_left
                        · simp only [Act.put, List.setIfInBounds_toArray, List.set_cons_zero, List.set_cons_succ, i64_w, i32_w]
                          rfl
                        refine pure_ (i := 11) (N := some 35) (v := ?_) (a' := ?_) #[true, true, true, true, true, true, true, true, true, true, true, true, false] rfl rfl (any_of HT_.out (by kernel_rfl)) (fun _ _ _ h => h) (Or.inl ⟨by rfl, ?_⟩) ?_ ?_
                        rotate_left
                        · intro w'
                          go_simp
                          with_reducible rfl
                        rotate_left
                        · simp only [Act.put, List.setIfInBounds_toArray, List.set_cons_zero, List.set_cons_succ, i64_w, i32_w]
                          rfl
                        refine last_ (i := 12) (N := none) #[true, true, true, true, true, true, true, true, true, true, true, true, true] rfl rfl (one_of HT_.out (by kernel_rfl)) (by decide) (fun K hK => ?_)
                        refine skip_ (w1 := ?_) (by rfl) rfl ?_ ?_
                        rotate_left
                        · go_simp
                          rfl
                        refine hK.out _ _ ?_
                        clear hK K
                        refine done_ (done_of HT_.out (by kernel_rfl)) ?_
                        try go_wp2
                        go_roundg k1
                        case measure => have := HK1.out; omega
                        case rel => exact ⟨(y239), (wrap64 (x6_1 + 1)), (by first | rfl | (simp; done) | (simp [*]; done)), H', ⟨by have := HK1.out; omega⟩, ⟨by (with_reducible repeat (first | apply Kd.R_alloc | apply Kd.R_drewN | apply Kd.R_drew)); exact HQ32.out⟩, ⟨by repeat (first | (with_reducible first | exact HB.out | apply below_alloc | apply pw_below_drewN | apply below_drew1 | refine below_set ?_ GB30.out) | exact HB.out)⟩⟩
                      · rw [if_neg c29] at H
                        exact absurd H (by simp)
                    · rw [if_neg c28] at H
                      exact absurd H (by simp)
            · rw [if_neg c8] at H
              exact absurd H (by simp)
          · rw [if_neg c7] at H
            have c7b0 : decide (x6_1 < (a1.size : Int)) = false := decide_eq_false c7
            clear c7
            obtain rfl := Option.some.inj H
            have hcv33 := own_string (P := Tryd.prog) Tryd.underlying60 Tryd.underlying5 Tryd.underlying9 (Kd.own_of_R HO_5.out)
            go_wp2
            go_ret
            exact ⟨by first | rfl | (simp [errW_none, errW_some] <;> rfl) | (simp [*, errW_none, errW_some] <;> rfl), by repeat (first | (with_reducible first | exact HB.out | apply below_alloc | apply pw_below_drewN | apply below_drew1) | exact HB.out)⟩
    · rw [if_neg c4] at H
      exact absurd H (by simp)
  · rw [if_neg c3] at H
    exact absurd H (by simp)
end Go.Proofs.YtlmgkmmdaecpdaaDoor.Im

namespace Go.Proofs.YtlmgkmmdaecpdaaDoor.Im
open Go.RowKit Go.Proofs.YtlmgkmmdaecpdaaDoorW.PrintWords Go.Proofs.YtlmgkmmdaecpdaaDoorW.PrintLast Go.Proofs.YtlmgkmmdaecpdaaDoorW.PrintMore Go.Proofs.YtlmgkmmdaecpdaaDoor.Mi
set_option linter.unusedVariables false
structure Env (w : World) (mL : Int) : Prop where
  st : Steps w
  mx : w.cell? ⟨1, 0, none⟩ = some (.int .i64 mL)
theorem Env.later {w w' : World} {mL : Int} (h : Env w mL) {B : Nat} (hb : Below B w w') (hB : B = w.heap.size) : Env w' mL := by
  subst hB
  exact ⟨h.st.later hb, (hb.cell (World.block_lt_of_cell? w _ h.mx)).trans h.mx⟩
theorem alive_env {w : World} {mL : Int} (h : Env w mL) : Calls Tryd.prog 17 #[] w fun e w' => e = .returned (.bool true) ∧ Below w.heap.size w w' := alive_any w h.st mL h.mx
end Go.Proofs.YtlmgkmmdaecpdaaDoor.Im

namespace Go.Proofs.YtlmgkmmdaecpdaaDoor.Im
open Go.RowKit Go.Proofs.YtlmgkmmdaecpdaaDoorW.PrintWords Go.Proofs.YtlmgkmmdaecpdaaDoorW.PrintLast Go.Proofs.YtlmgkmmdaecpdaaDoorW.PrintMore Go.Proofs.YtlmgkmmdaecpdaaDoor.Mi
set_option linter.unusedVariables false
set_option linter.unusedSimpArgs false
theorem cells_few {n : Nat} (h : n ≤ 20) : (cellsL n).length ≤ 800 := by have := celK_len (n := n) h 2; unfold cellsL; omega
end Go.Proofs.YtlmgkmmdaecpdaaDoor.Im

namespace Go.Proofs.YtlmgkmmdaecpdaaDoor.Im
open Go.RowKit Go.Proofs.YtlmgkmmdaecpdaaDoorW.PrintWords Go.Proofs.YtlmgkmmdaecpdaaDoorW.PrintLast Go.Proofs.YtlmgkmmdaecpdaaDoorW.PrintMore Go.Proofs.YtlmgkmmdaecpdaaDoor.Mi
set_option linter.unusedVariables false
set_option linter.unusedSimpArgs false
def fulE (n : Int) (s : ByteArray) : List (List Int) := if triE n s = 0 then fulL n.toNat s.data.toList else []
theorem fulE_rows (n : Int) (s : ByteArray) : ∀ x ∈ fulE n s, x.length = 3 := fun x hx => by
  unfold fulE at hx
  split at hx
  · unfold fulL at hx
    obtain ⟨y, _, rfl⟩ := List.mem_map.1 hx
    rfl
  · cases hx
theorem fulE_len (n : Int) (s : ByteArray) : (fulE n s).length ≤ 800 := by
  unfold fulE
  split
  · rename_i h
    unfold fulL
    rw [List.length_map]
    exact Nat.le_trans (List.length_filter_le _ _) (cells_few (col_of h).n20)
  · simp
theorem full_both {n : Int} {s : ByteArray} {w w' : World} {e : Ending} (h : FullPost n s w e w') : ∃ A c, e = .returned (.tuple #[.slice A (fulE n s).length c, .int .i64 (triE n s)]) ∧ (fulE n s).length ≤ c ∧ Kd.R (Kd.slice 3 (Kd.int .i64)) 34 w' w.heap.size (fun _ => True) (.slice A (fulE n s).length c) (fulE n s) ∧ Below w.heap.size w w' := by
  obtain ⟨h1, h2⟩ := h
  unfold fulE
  by_cases h0 : triE n s = 0
  · rw [if_pos h0] at h2 ⊢
    obtain ⟨v, h3, h4⟩ := h2
    obtain ⟨A, c, rfl, hc, _⟩ := Kd.R_reads h4
    exact ⟨A, c, by rw [h0]; exact h3, hc, h4, h1⟩
  · rw [if_neg h0] at h2 ⊢
    exact ⟨none, 0, h2, Nat.le_refl _, Kd.R_nil _ _ _ _ _, h1⟩
theorem add_block (a : Addr) (i : Nat) : (a.add i).block = a.block := by unfold Addr.add; split <;> rfl
def Rows9 (w : World) (B : Nat) (A : Option Addr) (L : Nat) : Prop := ∀ i : Nat, i < L → ∃ ad G c x, A = some ad ∧ w.cell? (ad.add i) = some (.slice (some ⟨G, 0, none⟩) 3 c) ∧ w.cell? ⟨G, 0, none⟩ = some (.int .i64 x) ∧ w.frozen? ⟨G, 0, none⟩ = false ∧ B ≤ G ∧ G ≠ ad.block
theorem Rows9.set {w : World} {B L : Nat} {A : Option Addr} (h : Rows9 w B A L) {j : Nat} (hj : j < L) {ad : Addr} {G c : Nat} (hA : A = some ad) (hG : w.cell? (ad.add j) = some (.slice (some ⟨G, 0, none⟩) 3 c)) (v : Int) : Rows9 (w.setCell ⟨G, 0, none⟩ (.int .i64 v)) B A L := by
  obtain ⟨ad', G', c', x, k1, k2, k3, k4, k5, k6⟩ := h j hj
  rw [hA] at k1
  have := Option.some.inj k1
  subst this
  rw [hG] at k2
  have : G = G' := by injection Option.some.inj k2 with e1; injection Option.some.inj e1
  subst this
  intro i hi
  obtain ⟨ad2, G2, c2, x2, q1, q2, q3, q4, q5, q6⟩ := h i hi
  rw [hA] at q1
  have := Option.some.inj q1
  subst this
  refine ⟨ad, G2, c2, ?_⟩
  by_cases e : G2 = G
  · subst e
    refine ⟨v, hA, ?_, World.cell?_setCell_same _ _ _ k3, ?_, q5, q6⟩
    · rw [World.cell?_setCell_far _ _ _ _ (show G2 ≠ (ad.add i).block by rw [add_block]; exact k6)]; exact q2
    · rw [World.frozen?_setCell]; exact q4
  · refine ⟨x2, hA, ?_, ?_, ?_, q5, q6⟩
    · rw [World.cell?_setCell_far _ _ _ _ (show G ≠ (ad.add i).block by rw [add_block]; exact k6)]; exact q2
    · rw [World.cell?_setCell_far _ _ _ _ (fun h => e h.symm)]; exact q3
    · rw [World.frozen?_setCell]; exact q4
theorem rows9_of {w : World} {B L c : Nat} {ok : Nat → Prop} {A : Option Addr} {xs : List (List Int)} (h : Kd.R (Kd.slice 3 (Kd.int .i64)) 34 w B ok (.slice A L c) xs) (h3 : ∀ x ∈ xs, x.length = 3) : Rows9 w B A L := by
  intro i hi
  obtain ⟨hn, _, _⟩ := Kd.R_reads' h
  obtain ⟨g, cap, hv, hB, _⟩ := Kd.R_form h (by omega)
  injection hv with e1 e2 e3
  subst e1
  obtain ⟨cs, hl, ⟨v, rfl, hM⟩, hcell, _⟩ := Kd.R_elem h [] (i : Int) (by omega) (by omega)
  rw [Int.toNat_natCast] at hM hcell
  have hx : (xs.getD i []).length = 3 := by
    rw [List.getD, List.getElem?_eq_getElem (show i < xs.length by omega)]
    exact h3 _ (List.getElem_mem _)
  obtain ⟨G, cap2, rfl, hB2, _⟩ := Kd.R_form hM (by omega)
  rw [hx] at hM hcell
  obtain ⟨c1, hl1, hM1, hcell1, hfr⟩ := Kd.R_elem hM 0 0 (by omega) (by omega)
  have e0 : c1 = [.int .i64 ((xs.getD i []).getD (0 : Int).toNat 0)] := hM1
  have h0 := hcell 0 _ rfl
  have h1 := hcell1 0 (.int .i64 ((xs.getD i []).getD (0 : Int).toNat 0)) (by rw [e0]; rfl)
  have hne := (hM.1 G rfl).2
  have s1 : (Kd.slice 3 (Kd.int .i64)).sz = 1 := rfl
  rw [s1, Nat.mul_one, Nat.add_zero] at h0
  exact ⟨⟨g, 0, none⟩, G, cap2, _, rfl, by rw [add_plain]; exact h0, h1, hfr 0, hB2, hne⟩
set_option maxHeartbeats 6400000 in
set_option maxRecDepth 100000 in
theorem law_full (n : Int) (s : ByteArray) (w : World) (hst : Steps w) (mL : Int) (hm : w.cell? ⟨1, 0, none⟩ = some (.int .i64 mL)) (hss : s.size ≤ 9223372036854775807) :
    Calls Tryd.prog 8 #[.int .i64 n, .string s] w fun e w' => e = .returned (.bool true) ∧ Below w.heap.size w w' := by
  have HE := Aside0.mk (Env.mk hst hm)
  have HB0 := Aside0.mk (Below.refl w.heap.size w)
  clear hst hm
  by_cases h2 : 300 < s.size
  · have t1 : decide (300 < (s.size : Int)) = true := decide_eq_true (by omega)
    have t2 : decide (300 < s.size) = true := decide_eq_true h2
    clear h2
    go_enter Tryd.func8, Tryd.ntmps8
    go_wp2_with fail
    refine (alive_env (HE.out)).mono ?_
    rintro e w1 ⟨rfl, hb1⟩
    have HB1 := Aside0.mk (below_then HB0.out HB0.out.size hb1)
    clear hb1 HB0
    go_wp2_with fail
    go_ret
    exact ⟨rfl, HB1.out⟩
  · have t1 : decide (300 < (s.size : Int)) = false := decide_eq_false (by omega)
    have t2 : decide (300 < s.size) = false := decide_eq_false h2
    have HPr := Aside0.mk (fun w1 => proper_call n s w1 hss)
    have HRp := Aside0.mk (fun w1 => rproper_call n s w1 (by omega))
    have HFu := Aside0.mk (fun w1 => (full_call n s w1 hss).mono (fun e w' h => full_both h))
    have HRf := Aside0.mk (fun w1 => (rfull_call n s w1 (by omega)).mono (fun e w' h => full_both h))
    have hrow := fulE_rows n s
    have hlen := fulE_len n s
    have HRow := Aside0.mk hrow
    obtain ⟨E, hE⟩ : ∃ E, triE n s = E := ⟨_, rfl⟩
    obtain ⟨is, his⟩ : ∃ i, proR n s = i := ⟨_, rfl⟩
    rw [hE, his] at HPr HRp
    rw [hE] at HFu HRf
    obtain ⟨xs, hxs⟩ : ∃ xs, fulE n s = xs := ⟨_, rfl⟩
    rw [hxs] at HFu HRf HRow hlen
    have HLi := Aside0.mk (fun (A B : Option Addr) (c d : Nat) (w1 : World) hA hc hB hd => lists_any xs A B c d w1 (by omega) (fun x hx => by rw [HRow.out x hx]; decide) hA hc hB hd)
    obtain ⟨L, hL⟩ : ∃ L, xs.length = L := ⟨_, rfl⟩
    rw [hL] at HFu HRf HLi hlen
    have HLL := Aside0.mk hL
    have q1 : (is != is) = false := by cases is <;> rfl
    have q2 : (E != E) = false := by simp
    clear hE his hxs hL h2 hrow
    go_enter Tryd.func8, Tryd.ntmps8
    go_wp2_with fail
    refine (HPr.out w).mono ?_
    rintro e w1 ⟨rfl, hb1⟩
    have HB1 := Aside0.mk (below_then HB0.out HB0.out.size hb1)
    clear hb1 HB0
    go_wp2_with fail
    refine (HRp.out w1).mono ?_
    rintro e w2 ⟨rfl, hb2⟩
    have HB2 := Aside0.mk (below_then HB1.out HB1.out.size hb2)
    clear hb2 HB1
    go_wp2_with fail
    refine (HRf.out w2).mono ?_
    rintro e w3 ⟨A3, c3, rfl, hc3, hR3, hb3⟩
    have HC3 := Aside0.mk (HLL.out ▸ (Kd.R_reads' hR3).2.2)
    have Hc3 := Aside0.mk hc3
    have HB3 := Aside0.mk (below_then HB2.out HB2.out.size hb3)
    clear hb3 HB2 hR3 hc3
    go_wp2_with fail
    go_loopw [10] (fun v10 wr => ∃ t : Nat, t ≤ 2 ∧ v10 = .int .i64 (t : Int) ∧ Aside0 (Below w3.heap.size w3 wr)) (fun v _ => 2 - (intOf v).toNat)
    case atStart => exact ⟨0, Nat.zero_le _, rfl, ⟨Below.refl _ _⟩⟩
    case round =>
      obtain ⟨t, ht, rfl, HBr⟩ := hrel
      by_cases ht2 : t < 2
      · have d1 : decide ((t : Int) < 2) = true := decide_eq_true (by omega)
        go_wp2_with fail
        refine (HFu.out wr).mono ?_
        rintro e w4 ⟨A4, c4, rfl, hc4, hR4, hb4⟩
        have H9 := Aside0.mk (rows9_of hR4 HRow.out)
        have HC4 := Aside0.mk (HLL.out ▸ (Kd.R_reads' hR4).2.2)
        have HB4 := Aside0.mk (below_then HBr.out HBr.out.size hb4)
        have HLc := Aside0.mk (HLi.out A4 A3 c4 c3 w4 HC4.out hc4 (Kd.C_below HC3.out HB4.out) Hc3.out)
        have HBb := Aside0.mk hb4
        clear hR4 hb4 hc4 HC4
        go_wp2_with fail
        refine HLc.out.mono ?_
        rintro e w5 ⟨rfl, hb5⟩
        have HB5 := Aside0.mk (below_then HBb.out HBb.out.size hb5)
        have H95 : Aside0 (Rows9 w5 wr.heap.size A4 L) := ⟨fun i hi => by
          obtain ⟨ad, G, c, x, k1, k2, k3, k4, k5, k6⟩ := H9.out i hi
          exact ⟨ad, G, c, x, k1, cell_below hb5 k2, cell_below hb5 k3, by rw [hb5.frozen (World.block_lt_of_cell? w4 _ k3)]; exact k4, k5, k6⟩⟩
        clear hb5 HLc HBb H9
        go_wp2_with fail
        have HBo := Aside0.mk HBr.out
        clear HBr HB4
        generalize wr = w6 at *
        go_loopw [13] (fun v13 wr => ∃ i : Nat, i ≤ L ∧ v13 = .int .i64 (i : Int) ∧ Aside0 (Rows9 wr w6.heap.size A4 L) ∧ Aside0 (Below w6.heap.size w6 wr)) (fun v _ => L - (intOf v).toNat)
        case atStart => exact ⟨0, Nat.zero_le _, rfl, H95, HB5⟩
        case round =>
          clear H95 HB5
          obtain ⟨i, hi, rfl, H9, HBi⟩ := hrel
          by_cases hiL : i < L
          · have u0 : (0 : Int) ≤ (i : Int) := by omega
            have u1 : (i : Int) < (L : Int) := by omega
            have d2 : decide ((i : Int) < (L : Int)) = true := decide_eq_true u1
            obtain ⟨ad, G, c, x, rfl, k2, k3, k4, k5, k6⟩ := H9.out i hiL
            have HS := Aside0.mk (H9.out.set hiL rfl k2 9)
            have HBs := Aside0.mk (HBi.out.setCell (p := ⟨G, 0, none⟩) k5 (.int .i64 9))
            clear k5 k6
            go_wp2_with fail
            go_roundw
            case rel => exact ⟨i + 1, hiL, by go_num, HS, HBs⟩
            case measure => simp [intOf]; omega
          · obtain rfl : i = L := by omega
            have d2 : decide ((i : Int) < (i : Int)) = false := decide_eq_false (by omega)
            go_wp2_with fail
            go_roundw
            case rel => exact ⟨t + 1, by omega, by go_num, ⟨below_then HBo.out HBo.out.size HBi.out⟩⟩
            case measure => simp [intOf]; omega
      · obtain rfl : t = 2 := by omega
        go_wp2_with fail
        refine (alive_env (HE.out.later (below_then HB3.out HB3.out.size HBr.out) rfl)).mono ?_
        rintro e w5 ⟨rfl, hb5⟩
        have HB5 := Aside0.mk (below_then HB3.out HB3.out.size (below_then HBr.out HBr.out.size hb5))
        clear hb5
        go_wp2_with fail
        go_ret
        exact ⟨rfl, HB5.out⟩
end Go.Proofs.YtlmgkmmdaecpdaaDoor.Im

