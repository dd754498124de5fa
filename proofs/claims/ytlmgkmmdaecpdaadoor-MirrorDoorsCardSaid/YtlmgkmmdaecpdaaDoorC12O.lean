/- Further parts of the same walk: contracts of the functions that the law reaches, each under the conditions that it states. -/
import Derived.Test.YtlmgkmmdaecpdaaDoorC12N
import Derived.Deep.RegionHeld
namespace Go.Proofs.YtlmgkmmdaecpdaaDoor.Im
open Go.RowKit
set_option linter.unusedVariables false
section
variable {P : Program} {ops : Array Oper} {Q : Exit → Act → World → Prop} {md : Region.Mode} {S : World → Prop}
theorem at_list {i : Nat} {o : Oper} (h : ops.toList[i]? = some o) : ops[i]? = some o := by rw [← Array.getElem?_toList]; exact h
theorem wpAnyH_takeL {i : Nat} {oi : Oper} {v : Value} {fuel : Nat} {listed : Array Bool} {a : Act} {w : World} (hi : ops.toList[i]? = some oi)
    (hs : Region.noSelect ops = true) (hf : Region.free md ops listed i = true) (hr : (Region.ready md ops listed).contains i = true)
    (hQ : ∀ c a w, Q (.panic c) (a.put oi.dst v) w → Q (.panic c) a w) (hy : YieldsIf P ops S oi v a) (hS : S w)
    (h : wpAnyH P md ops Q S fuel (listed.setIfInBounds i true) (a.put oi.dst v) w) : wpAnyH P md ops Q S (fuel + 1) listed a w :=
  wpAnyH_take (at_list hi) hs hf hr hQ hy hS h
theorem AllReadyH.consL {fuel : Nat} {listed : Array Bool} {a : Act} {w : World} {i : Nat} {o : Oper} {rs : List Nat} (ho : ops.toList[i]? = some o)
    (h : ∀ K' : Act → World → Prop, Shut (∀ a w, S w → (S w → wpAnyH P md ops Q S fuel (listed.setIfInBounds i true) a w) → K' a w) → if Region.wanted o (yielded ops a.tmps) = true then Oper.wp P o a w K' Q else K' (a.put o.dst undef) w)
    (hs : AllReadyH P md ops Q S fuel listed a w rs) : AllReadyH P md ops Q S fuel listed a w (i :: rs) := AllReadyH.cons (at_list ho) h hs
end
end Go.Proofs.YtlmgkmmdaecpdaaDoor.Im

namespace Go.Proofs.YtlmgkmmdaecpdaaDoor.Im
open Go.RowKit Go.Proofs.YtlmgkmmdaecpdaaDoorW.PrintWords Go.Proofs.YtlmgkmmdaecpdaaDoorW.PrintLast Go.Proofs.YtlmgkmmdaecpdaaDoorW.PrintMore Go.Proofs.YtlmgkmmdaecpdaaDoor.Mi
set_option linter.unusedVariables false
set_option linter.unusedSimpArgs false
theorem conv3a (w : World) (t : TypeId) (a b c : UInt8) (cap : Nat) : (convert 60 9 (.slice (some ⟨w.heap.size, 0, none⟩) 3 cap)).run Tryd.prog (w.alloc (.cells #[.int .u8 (a.toNat : Int), .int .u8 (b.toNat : Int), .int .u8 (c.toNat : Int)] t)) = .ok (.string ⟨#[a, b, c]⟩) (w.alloc (.cells #[.int .u8 (a.toNat : Int), .int .u8 (b.toNat : Int), .int .u8 (c.toNat : Int)] t)) := by
  have hb : Lib.Bytes (w.alloc (.cells #[.int .u8 (a.toNat : Int), .int .u8 (b.toNat : Int), .int .u8 (c.toNat : Int)] t)) w.heap.size 0 ⟨#[a, b, c]⟩ := by
    intro i hi
    have hi3 : i < 3 := hi
    rw [Nat.zero_add, (Blk.new w t _).cell]
    match i, hi3 with
    | 0, _ => rfl
    | 1, _ => rfl
    | 2, _ => rfl
  exact Lib.run_convert_whole (P := Tryd.prog) _ 60 5 9 Tryd.underlying60 Tryd.underlying5 Tryd.underlying9 w.heap.size 0 _ hb cap
set_option maxHeartbeats 12800000 in
set_option maxRecDepth 100000 in
theorem told_0 (n : Nat) (s : ByteArray) (i j : Nat) (w : World) (hn : n ≤ 20) (hij : i + j + 0 + 1 ≤ n) (hs : s.size = offT n (n + 1)) :
    Calls Tryd.prog 58 #[.int .i64 n, .string s, .agg #[.int .i64 0, .int .i64 (i : Nat), .int .i64 (j : Nat)]] w fun e w' => e = .returned (.string (txtB n s.data.toList 0 i j)) ∧ Below w.heap.size w w' := by
  have HP := Aside0.mk (fun w1 => corners_0 i j w1 (by omega) (by omega))
  have hc0 := fun w1 => colour_any n s i j w1 hn (by omega) hs
  have hc1 := fun w1 => colour_any n s (i + 1) j w1 hn (by omega) hs
  have hc2 := fun w1 => colour_any n s i (j + 1) w1 hn (by omega) hs
  obtain ⟨x0, hx0⟩ : ∃ x, colB n s.data.toList i j = x := ⟨_, rfl⟩
  rw [hx0] at hc0
  push_cast at hc0
  have HC0 := Aside0.mk hc0
  obtain ⟨x1, hx1⟩ : ∃ x, colB n s.data.toList (i + 1) j = x := ⟨_, rfl⟩
  rw [hx1] at hc1
  push_cast at hc1
  have HC1 := Aside0.mk hc1
  obtain ⟨x2, hx2⟩ : ∃ x, colB n s.data.toList i (j + 1) = x := ⟨_, rfl⟩
  rw [hx2] at hc2
  push_cast at hc2
  have HC2 := Aside0.mk hc2
  have HR : Aside0 (txtB n s.data.toList 0 i j = ⟨#[x0, x1, x2]⟩) := ⟨by unfold txtB; rw [if_pos rfl, hx0, hx1, hx2]⟩
  clear hij hs hn hc0 hc1 hc2 hx0 hx1 hx2
  go_enter Tryd.func58, Tryd.ntmps58
  go_wp2_with fail
  refine (HP.out _).mono ?_
  rintro e w1 ⟨rfl, hb1⟩
  have hb0 : Below w.heap.size w w1 := below_then (below_alloc (Below.refl _ _) _) (by simp) hb1
  have HB := Aside0.mk hb0
  clear hb0 hb1
  go_upto_region 2 with fail
  obtain ⟨gq, hgq⟩ : ∃ gq, w1.heap.size = gq := ⟨_, rfl⟩
  have hb2 : Below w1.heap.size w1 (w1.alloc (.cells #[.int .i64 (i : Nat), .int .i64 (j : Nat), .int .i64 ((i : Int) + 1), .int .i64 (j : Nat), .int .i64 (i : Nat), .int .i64 ((j : Int) + 1)] 101)) := below_alloc (Below.refl _ _) _
  have HQ := Aside0.mk (Blk.new w1 101 #[.int .i64 (i : Nat), .int .i64 (j : Nat), .int .i64 ((i : Int) + 1), .int .i64 (j : Nat), .int .i64 (i : Nat), .int .i64 ((j : Int) + 1)])
  have HB2 := Aside0.mk (below_then HB.out HB.out.size hb2)
  rw [hgq] at HQ ⊢
  clear hb2 HB
  generalize w1.alloc (.cells #[.int .i64 (i : Nat), .int .i64 (j : Nat), .int .i64 ((i : Int) + 1), .int .i64 (j : Nat), .int .i64 (i : Nat), .int .i64 ((j : Int) + 1)] 101) = W at *
  have hS : ∀ w', Blk w' gq 101 #[.int .i64 (i : Nat), .int .i64 (j : Nat), .int .i64 ((i : Int) + 1), .int .i64 (j : Nat), .int .i64 (i : Nat), .int .i64 ((j : Int) + 1)] → Below w.heap.size w w' → w'.cell? ⟨gq, 0, none⟩ = some (.int .i64 (i : Nat)) ∧ w'.cell? ⟨gq, 1, none⟩ = some (.int .i64 (j : Nat)) ∧ w'.cell? ⟨gq, 2, none⟩ = some (.int .i64 ((i : Int) + 1)) ∧ w'.cell? ⟨gq, 3, none⟩ = some (.int .i64 (j : Nat)) ∧ w'.cell? ⟨gq, 4, none⟩ = some (.int .i64 (i : Nat)) ∧ w'.cell? ⟨gq, 5, none⟩ = some (.int .i64 ((j : Int) + 1)) ∧ Blk w' gq 101 #[.int .i64 (i : Nat), .int .i64 (j : Nat), .int .i64 ((i : Int) + 1), .int .i64 (j : Nat), .int .i64 (i : Nat), .int .i64 ((j : Int) + 1)] ∧ Below w.heap.size w w' := fun w' h1 h2 => ⟨h1.cell 0, h1.cell 1, h1.cell 2, h1.cell 3, h1.cell 4, h1.cell 5, h1, h2⟩
  have hnew := HQ.out.drew
  have hbel := below_drew HB2.out
  have hcv := conv3a
  refine wp_region_held_drew (S := fun w' => w'.cell? ⟨gq, 0, none⟩ = some (.int .i64 (i : Nat)) ∧ w'.cell? ⟨gq, 1, none⟩ = some (.int .i64 (j : Nat)) ∧ w'.cell? ⟨gq, 2, none⟩ = some (.int .i64 ((i : Int) + 1)) ∧ w'.cell? ⟨gq, 3, none⟩ = some (.int .i64 (j : Nat)) ∧ w'.cell? ⟨gq, 4, none⟩ = some (.int .i64 (i : Nat)) ∧ w'.cell? ⟨gq, 5, none⟩ = some (.int .i64 ((j : Int) + 1)) ∧ Blk w' gq 101 #[.int .i64 (i : Nat), .int .i64 (j : Nat), .int .i64 ((i : Int) + 1), .int .i64 (j : Nat), .int .i64 (i : Nat), .int .i64 ((j : Int) + 1)] ∧ Below w.heap.size w w') (by kernel_rfl) ?_ (fun hHeld => ?_)
  · exact hS _ hnew hbel
  refine wpAnyH_takeL (i := 0) (v := ?_) rfl (by kernel_rfl) (by kernel_rfl) (by kernel_rfl) (fun _ _ _ h => h) (Or.inl ⟨by rfl, ?_⟩) hHeld ?_
  rotate_left
  · intro w hSw
    (try dsimp only at hSw)
    go_simp
    all_goals with_reducible rfl
  try simp only [Act.put, List.setIfInBounds_toArray, List.set_cons_zero, List.set_cons_succ]
  refine wpAnyH_takeL (i := 1) (v := ?_) rfl (by kernel_rfl) (by kernel_rfl) (by kernel_rfl) (fun _ _ _ h => h) (Or.inl ⟨by rfl, ?_⟩) hHeld ?_
  rotate_left
  · intro w hSw
    (try dsimp only at hSw)
    go_simp
    all_goals with_reducible rfl
  try simp only [Act.put, List.setIfInBounds_toArray, List.set_cons_zero, List.set_cons_succ]
  refine wpAnyH_takeL (i := 2) (v := ?_) rfl (by kernel_rfl) (by kernel_rfl) (by kernel_rfl) (fun _ _ _ h => h) (Or.inl ⟨by rfl, ?_⟩) hHeld ?_
  rotate_left
  · intro w hSw
    (try dsimp only at hSw)
    go_simp
    all_goals with_reducible rfl
  try simp only [Act.put, List.setIfInBounds_toArray, List.set_cons_zero, List.set_cons_succ]
  refine wpAnyH_takeL (i := 3) (v := ?_) rfl (by kernel_rfl) (by kernel_rfl) (by kernel_rfl) (fun _ _ _ h => h) (Or.inl ⟨by rfl, ?_⟩) hHeld ?_
  rotate_left
  · intro w hSw
    (try dsimp only at hSw)
    go_simp
    all_goals with_reducible rfl
  try simp only [Act.put, List.setIfInBounds_toArray, List.set_cons_zero, List.set_cons_succ]
  refine wpAnyH_takeL (i := 5) (v := ?_) rfl (by kernel_rfl) (by kernel_rfl) (by kernel_rfl) (fun _ _ _ h => h) (Or.inl ⟨by rfl, ?_⟩) hHeld ?_
  rotate_left
  · intro w hSw
    (try dsimp only at hSw)
    go_simp
    all_goals with_reducible rfl
  try simp only [Act.put, List.setIfInBounds_toArray, List.set_cons_zero, List.set_cons_succ]
  refine wpAnyH_takeL (i := 6) (v := ?_) rfl (by kernel_rfl) (by kernel_rfl) (by kernel_rfl) (fun _ _ _ h => h) (Or.inl ⟨by rfl, ?_⟩) hHeld ?_
  rotate_left
  · intro w hSw
    (try dsimp only at hSw)
    go_simp
    all_goals with_reducible rfl
  try simp only [Act.put, List.setIfInBounds_toArray, List.set_cons_zero, List.set_cons_succ]
  refine wpAnyH_takeL (i := 7) (v := ?_) rfl (by kernel_rfl) (by kernel_rfl) (by kernel_rfl) (fun _ _ _ h => h) (Or.inl ⟨by rfl, ?_⟩) hHeld ?_
  rotate_left
  · intro w hSw
    (try dsimp only at hSw)
    go_simp
    all_goals with_reducible rfl
  try simp only [Act.put, List.setIfInBounds_toArray, List.set_cons_zero, List.set_cons_succ]
  refine wpAnyH_takeL (i := 8) (v := ?_) rfl (by kernel_rfl) (by kernel_rfl) (by kernel_rfl) (fun _ _ _ h => h) (Or.inl ⟨by rfl, ?_⟩) hHeld ?_
  rotate_left
  · intro w hSw
    (try dsimp only at hSw)
    go_simp
    all_goals with_reducible rfl
  try simp only [Act.put, List.setIfInBounds_toArray, List.set_cons_zero, List.set_cons_succ]
  refine wpAnyH_takeL (i := 10) (v := ?_) rfl (by kernel_rfl) (by kernel_rfl) (by kernel_rfl) (fun _ _ _ h => h) (Or.inl ⟨by rfl, ?_⟩) hHeld ?_
  rotate_left
  · intro w hSw
    (try dsimp only at hSw)
    go_simp
    all_goals with_reducible rfl
  try simp only [Act.put, List.setIfInBounds_toArray, List.set_cons_zero, List.set_cons_succ]
  refine wpAnyH_takeL (i := 11) (v := ?_) rfl (by kernel_rfl) (by kernel_rfl) (by kernel_rfl) (fun _ _ _ h => h) (Or.inl ⟨by rfl, ?_⟩) hHeld ?_
  rotate_left
  · intro w hSw
    (try dsimp only at hSw)
    go_simp
    all_goals with_reducible rfl
  try simp only [Act.put, List.setIfInBounds_toArray, List.set_cons_zero, List.set_cons_succ]
  refine wpAnyH_takeL (i := 12) (v := ?_) rfl (by kernel_rfl) (by kernel_rfl) (by kernel_rfl) (fun _ _ _ h => h) (Or.inl ⟨by rfl, ?_⟩) hHeld ?_
  rotate_left
  · intro w hSw
    (try dsimp only at hSw)
    go_simp
    all_goals with_reducible rfl
  try simp only [Act.put, List.setIfInBounds_toArray, List.set_cons_zero, List.set_cons_succ]
  refine wpAnyH_takeL (i := 13) (v := ?_) rfl (by kernel_rfl) (by kernel_rfl) (by kernel_rfl) (fun _ _ _ h => h) (Or.inl ⟨by rfl, ?_⟩) hHeld ?_
  rotate_left
  · intro w hSw
    (try dsimp only at hSw)
    go_simp
    all_goals with_reducible rfl
  try simp only [Act.put, List.setIfInBounds_toArray, List.set_cons_zero, List.set_cons_succ]
  refine wpAnyH_ready (rs := [4]) (by kernel_rfl) (by simp) ?_
  refine AllReadyH.consL rfl (fun K hK => ?_) ?_
  · go_simp
    refine (HC0.out _).mono ?_
    rintro e w2 ⟨rfl, hb2⟩
    have hnew2 := Blk.later hnew hb2; have hbel2 := below_then hbel hbel.size hb2; clear hb2
    go_wp2_with fail
    refine hK.out _ _ ?_ (fun hHeld => ?_)
    · exact hS _ hnew2 hbel2
    clear hK K
    try simp only [Act.put, List.setIfInBounds_toArray, List.set_cons_zero, List.set_cons_succ]
    refine wpAnyH_ready (rs := [9]) (by kernel_rfl) (by simp) ?_
    refine AllReadyH.consL rfl (fun K hK => ?_) ?_
    · go_simp
      refine (HC1.out _).mono ?_
      rintro e w2 ⟨rfl, hb2⟩
      have hnew3 := Blk.later hnew2 hb2; have hbel3 := below_then hbel2 hbel2.size hb2; clear hb2 hnew2 hbel2; have hnew2 := hnew3; have hbel2 := hbel3; clear hnew3 hbel3
      go_wp2_with fail
      refine hK.out _ _ ?_ (fun hHeld => ?_)
      · exact hS _ hnew2 hbel2
      clear hK K
      try simp only [Act.put, List.setIfInBounds_toArray, List.set_cons_zero, List.set_cons_succ]
      refine wpAnyH_ready (rs := [14]) (by kernel_rfl) (by simp) ?_
      refine AllReadyH.consL rfl (fun K hK => ?_) ?_
      · go_simp
        refine (HC2.out _).mono ?_
        rintro e w2 ⟨rfl, hb2⟩
        have hnew3 := Blk.later hnew2 hb2; have hbel3 := below_then hbel2 hbel2.size hb2; clear hb2 hnew2 hbel2; have hnew2 := hnew3; have hbel2 := hbel3; clear hnew3 hbel3
        go_wp2_with fail
        refine hK.out _ _ ?_ (fun hHeld => ?_)
        · exact hS _ hnew2 hbel2
        clear hK K
        try simp only [Act.put, List.setIfInBounds_toArray, List.set_cons_zero, List.set_cons_succ]
        refine wpAnyH_ready (rs := [15]) (by kernel_rfl) (by simp) ?_
        refine AllReadyH.consL rfl (fun K hK => ?_) ?_
        · go_simp
          refine hK.out _ _ ?_ (fun hHeld => ?_)
          · exact hS _ (hnew2.alloc _) (below_alloc hbel2 _)
          clear hK K
          try simp only [Act.put, List.setIfInBounds_toArray, List.set_cons_zero, List.set_cons_succ]
          refine wpAnyH_ready (rs := [16]) (by kernel_rfl) (by simp) ?_
          refine AllReadyH.consL rfl (fun K hK => ?_) ?_
          · go_simp
            refine hK.out _ _ ?_ (fun hHeld => ?_)
            · exact hS _ (hnew2.alloc _) (below_alloc hbel2 _)
            clear hK K
            try simp only [Act.put, List.setIfInBounds_toArray, List.set_cons_zero, List.set_cons_succ]
            refine wpAnyH_takeL (i := 17) (v := ?_) rfl (by kernel_rfl) (by kernel_rfl) (by kernel_rfl) (fun _ _ _ h => h) (Or.inl ⟨by rfl, ?_⟩) hHeld ?_
            rotate_left
            · intro w hSw
              (try dsimp only at hSw)
              go_simp
              all_goals with_reducible rfl
            try simp only [Act.put, List.setIfInBounds_toArray, List.set_cons_zero, List.set_cons_succ]
            refine wpAnyH_done (by kernel_rfl) ?_ _
            go_wp2_with fail
            go_ret
            exact ⟨by rw [HR.out]; rfl, below_alloc hbel2 _⟩
          exact AllReadyH.nil
        exact AllReadyH.nil
      exact AllReadyH.nil
    exact AllReadyH.nil
  exact AllReadyH.nil
set_option maxHeartbeats 12800000 in
set_option maxRecDepth 100000 in
theorem told_1 (n : Nat) (s : ByteArray) (i j : Nat) (w : World) (hn : n ≤ 20) (hij : i + j + 1 + 1 ≤ n) (hs : s.size = offT n (n + 1)) :
    Calls Tryd.prog 58 #[.int .i64 n, .string s, .agg #[.int .i64 1, .int .i64 (i : Nat), .int .i64 (j : Nat)]] w fun e w' => e = .returned (.string (txtB n s.data.toList 1 i j)) ∧ Below w.heap.size w w' := by
  have HP := Aside0.mk (fun w1 => corners_1 i j w1 (by omega) (by omega))
  have hc0 := fun w1 => colour_any n s (i + 1) j w1 hn (by omega) hs
  have hc1 := fun w1 => colour_any n s i (j + 1) w1 hn (by omega) hs
  have hc2 := fun w1 => colour_any n s (i + 1) (j + 1) w1 hn (by omega) hs
  obtain ⟨x0, hx0⟩ : ∃ x, colB n s.data.toList (i + 1) j = x := ⟨_, rfl⟩
  rw [hx0] at hc0
  push_cast at hc0
  have HC0 := Aside0.mk hc0
  obtain ⟨x1, hx1⟩ : ∃ x, colB n s.data.toList i (j + 1) = x := ⟨_, rfl⟩
  rw [hx1] at hc1
  push_cast at hc1
  have HC1 := Aside0.mk hc1
  obtain ⟨x2, hx2⟩ : ∃ x, colB n s.data.toList (i + 1) (j + 1) = x := ⟨_, rfl⟩
  rw [hx2] at hc2
  push_cast at hc2
  have HC2 := Aside0.mk hc2
  have HR : Aside0 (txtB n s.data.toList 1 i j = ⟨#[x0, x1, x2]⟩) := ⟨by unfold txtB; rw [if_neg (by decide), hx0, hx1, hx2]⟩
  clear hij hs hn hc0 hc1 hc2 hx0 hx1 hx2
  go_enter Tryd.func58, Tryd.ntmps58
  go_wp2_with fail
  refine (HP.out _).mono ?_
  rintro e w1 ⟨rfl, hb1⟩
  have hb0 : Below w.heap.size w w1 := below_then (below_alloc (Below.refl _ _) _) (by simp) hb1
  have HB := Aside0.mk hb0
  clear hb0 hb1
  go_upto_region 2 with fail
  obtain ⟨gq, hgq⟩ : ∃ gq, w1.heap.size = gq := ⟨_, rfl⟩
  have hb2 : Below w1.heap.size w1 (w1.alloc (.cells #[.int .i64 ((i : Int) + 1), .int .i64 (j : Nat), .int .i64 (i : Nat), .int .i64 ((j : Int) + 1), .int .i64 ((i : Int) + 1), .int .i64 ((j : Int) + 1)] 101)) := below_alloc (Below.refl _ _) _
  have HQ := Aside0.mk (Blk.new w1 101 #[.int .i64 ((i : Int) + 1), .int .i64 (j : Nat), .int .i64 (i : Nat), .int .i64 ((j : Int) + 1), .int .i64 ((i : Int) + 1), .int .i64 ((j : Int) + 1)])
  have HB2 := Aside0.mk (below_then HB.out HB.out.size hb2)
  rw [hgq] at HQ ⊢
  clear hb2 HB
  generalize w1.alloc (.cells #[.int .i64 ((i : Int) + 1), .int .i64 (j : Nat), .int .i64 (i : Nat), .int .i64 ((j : Int) + 1), .int .i64 ((i : Int) + 1), .int .i64 ((j : Int) + 1)] 101) = W at *
  have hS : ∀ w', Blk w' gq 101 #[.int .i64 ((i : Int) + 1), .int .i64 (j : Nat), .int .i64 (i : Nat), .int .i64 ((j : Int) + 1), .int .i64 ((i : Int) + 1), .int .i64 ((j : Int) + 1)] → Below w.heap.size w w' → w'.cell? ⟨gq, 0, none⟩ = some (.int .i64 ((i : Int) + 1)) ∧ w'.cell? ⟨gq, 1, none⟩ = some (.int .i64 (j : Nat)) ∧ w'.cell? ⟨gq, 2, none⟩ = some (.int .i64 (i : Nat)) ∧ w'.cell? ⟨gq, 3, none⟩ = some (.int .i64 ((j : Int) + 1)) ∧ w'.cell? ⟨gq, 4, none⟩ = some (.int .i64 ((i : Int) + 1)) ∧ w'.cell? ⟨gq, 5, none⟩ = some (.int .i64 ((j : Int) + 1)) ∧ Blk w' gq 101 #[.int .i64 ((i : Int) + 1), .int .i64 (j : Nat), .int .i64 (i : Nat), .int .i64 ((j : Int) + 1), .int .i64 ((i : Int) + 1), .int .i64 ((j : Int) + 1)] ∧ Below w.heap.size w w' := fun w' h1 h2 => ⟨h1.cell 0, h1.cell 1, h1.cell 2, h1.cell 3, h1.cell 4, h1.cell 5, h1, h2⟩
  have hnew := HQ.out.drew
  have hbel := below_drew HB2.out
  have hcv := conv3a
  refine wp_region_held_drew (S := fun w' => w'.cell? ⟨gq, 0, none⟩ = some (.int .i64 ((i : Int) + 1)) ∧ w'.cell? ⟨gq, 1, none⟩ = some (.int .i64 (j : Nat)) ∧ w'.cell? ⟨gq, 2, none⟩ = some (.int .i64 (i : Nat)) ∧ w'.cell? ⟨gq, 3, none⟩ = some (.int .i64 ((j : Int) + 1)) ∧ w'.cell? ⟨gq, 4, none⟩ = some (.int .i64 ((i : Int) + 1)) ∧ w'.cell? ⟨gq, 5, none⟩ = some (.int .i64 ((j : Int) + 1)) ∧ Blk w' gq 101 #[.int .i64 ((i : Int) + 1), .int .i64 (j : Nat), .int .i64 (i : Nat), .int .i64 ((j : Int) + 1), .int .i64 ((i : Int) + 1), .int .i64 ((j : Int) + 1)] ∧ Below w.heap.size w w') (by kernel_rfl) ?_ (fun hHeld => ?_)
  · exact hS _ hnew hbel
  refine wpAnyH_takeL (i := 0) (v := ?_) rfl (by kernel_rfl) (by kernel_rfl) (by kernel_rfl) (fun _ _ _ h => h) (Or.inl ⟨by rfl, ?_⟩) hHeld ?_
  rotate_left
  · intro w hSw
    (try dsimp only at hSw)
    go_simp
    all_goals with_reducible rfl
  try simp only [Act.put, List.setIfInBounds_toArray, List.set_cons_zero, List.set_cons_succ]
  refine wpAnyH_takeL (i := 1) (v := ?_) rfl (by kernel_rfl) (by kernel_rfl) (by kernel_rfl) (fun _ _ _ h => h) (Or.inl ⟨by rfl, ?_⟩) hHeld ?_
  rotate_left
  · intro w hSw
    (try dsimp only at hSw)
    go_simp
    all_goals with_reducible rfl
  try simp only [Act.put, List.setIfInBounds_toArray, List.set_cons_zero, List.set_cons_succ]
  refine wpAnyH_takeL (i := 2) (v := ?_) rfl (by kernel_rfl) (by kernel_rfl) (by kernel_rfl) (fun _ _ _ h => h) (Or.inl ⟨by rfl, ?_⟩) hHeld ?_
  rotate_left
  · intro w hSw
    (try dsimp only at hSw)
    go_simp
    all_goals with_reducible rfl
  try simp only [Act.put, List.setIfInBounds_toArray, List.set_cons_zero, List.set_cons_succ]
  refine wpAnyH_takeL (i := 3) (v := ?_) rfl (by kernel_rfl) (by kernel_rfl) (by kernel_rfl) (fun _ _ _ h => h) (Or.inl ⟨by rfl, ?_⟩) hHeld ?_
  rotate_left
  · intro w hSw
    (try dsimp only at hSw)
    go_simp
    all_goals with_reducible rfl
  try simp only [Act.put, List.setIfInBounds_toArray, List.set_cons_zero, List.set_cons_succ]
  refine wpAnyH_takeL (i := 5) (v := ?_) rfl (by kernel_rfl) (by kernel_rfl) (by kernel_rfl) (fun _ _ _ h => h) (Or.inl ⟨by rfl, ?_⟩) hHeld ?_
  rotate_left
  · intro w hSw
    (try dsimp only at hSw)
    go_simp
    all_goals with_reducible rfl
  try simp only [Act.put, List.setIfInBounds_toArray, List.set_cons_zero, List.set_cons_succ]
  refine wpAnyH_takeL (i := 6) (v := ?_) rfl (by kernel_rfl) (by kernel_rfl) (by kernel_rfl) (fun _ _ _ h => h) (Or.inl ⟨by rfl, ?_⟩) hHeld ?_
  rotate_left
  · intro w hSw
    (try dsimp only at hSw)
    go_simp
    all_goals with_reducible rfl
  try simp only [Act.put, List.setIfInBounds_toArray, List.set_cons_zero, List.set_cons_succ]
  refine wpAnyH_takeL (i := 7) (v := ?_) rfl (by kernel_rfl) (by kernel_rfl) (by kernel_rfl) (fun _ _ _ h => h) (Or.inl ⟨by rfl, ?_⟩) hHeld ?_
  rotate_left
  · intro w hSw
    (try dsimp only at hSw)
    go_simp
    all_goals with_reducible rfl
  try simp only [Act.put, List.setIfInBounds_toArray, List.set_cons_zero, List.set_cons_succ]
  refine wpAnyH_takeL (i := 8) (v := ?_) rfl (by kernel_rfl) (by kernel_rfl) (by kernel_rfl) (fun _ _ _ h => h) (Or.inl ⟨by rfl, ?_⟩) hHeld ?_
  rotate_left
  · intro w hSw
    (try dsimp only at hSw)
    go_simp
    all_goals with_reducible rfl
  try simp only [Act.put, List.setIfInBounds_toArray, List.set_cons_zero, List.set_cons_succ]
  refine wpAnyH_takeL (i := 10) (v := ?_) rfl (by kernel_rfl) (by kernel_rfl) (by kernel_rfl) (fun _ _ _ h => h) (Or.inl ⟨by rfl, ?_⟩) hHeld ?_
  rotate_left
  · intro w hSw
    (try dsimp only at hSw)
    go_simp
    all_goals with_reducible rfl
  try simp only [Act.put, List.setIfInBounds_toArray, List.set_cons_zero, List.set_cons_succ]
  refine wpAnyH_takeL (i := 11) (v := ?_) rfl (by kernel_rfl) (by kernel_rfl) (by kernel_rfl) (fun _ _ _ h => h) (Or.inl ⟨by rfl, ?_⟩) hHeld ?_
  rotate_left
  · intro w hSw
    (try dsimp only at hSw)
    go_simp
    all_goals with_reducible rfl
  try simp only [Act.put, List.setIfInBounds_toArray, List.set_cons_zero, List.set_cons_succ]
  refine wpAnyH_takeL (i := 12) (v := ?_) rfl (by kernel_rfl) (by kernel_rfl) (by kernel_rfl) (fun _ _ _ h => h) (Or.inl ⟨by rfl, ?_⟩) hHeld ?_
  rotate_left
  · intro w hSw
    (try dsimp only at hSw)
    go_simp
    all_goals with_reducible rfl
  try simp only [Act.put, List.setIfInBounds_toArray, List.set_cons_zero, List.set_cons_succ]
  refine wpAnyH_takeL (i := 13) (v := ?_) rfl (by kernel_rfl) (by kernel_rfl) (by kernel_rfl) (fun _ _ _ h => h) (Or.inl ⟨by rfl, ?_⟩) hHeld ?_
  rotate_left
  · intro w hSw
    (try dsimp only at hSw)
    go_simp
    all_goals with_reducible rfl
  try simp only [Act.put, List.setIfInBounds_toArray, List.set_cons_zero, List.set_cons_succ]
  refine wpAnyH_ready (rs := [4]) (by kernel_rfl) (by simp) ?_
  refine AllReadyH.consL rfl (fun K hK => ?_) ?_
  · go_simp
    refine (HC0.out _).mono ?_
    rintro e w2 ⟨rfl, hb2⟩
    have hnew2 := Blk.later hnew hb2; have hbel2 := below_then hbel hbel.size hb2; clear hb2
    go_wp2_with fail
    refine hK.out _ _ ?_ (fun hHeld => ?_)
    · exact hS _ hnew2 hbel2
    clear hK K
    try simp only [Act.put, List.setIfInBounds_toArray, List.set_cons_zero, List.set_cons_succ]
    refine wpAnyH_ready (rs := [9]) (by kernel_rfl) (by simp) ?_
    refine AllReadyH.consL rfl (fun K hK => ?_) ?_
    · go_simp
      refine (HC1.out _).mono ?_
      rintro e w2 ⟨rfl, hb2⟩
      have hnew3 := Blk.later hnew2 hb2; have hbel3 := below_then hbel2 hbel2.size hb2; clear hb2 hnew2 hbel2; have hnew2 := hnew3; have hbel2 := hbel3; clear hnew3 hbel3
      go_wp2_with fail
      refine hK.out _ _ ?_ (fun hHeld => ?_)
      · exact hS _ hnew2 hbel2
      clear hK K
      try simp only [Act.put, List.setIfInBounds_toArray, List.set_cons_zero, List.set_cons_succ]
      refine wpAnyH_ready (rs := [14]) (by kernel_rfl) (by simp) ?_
      refine AllReadyH.consL rfl (fun K hK => ?_) ?_
      · go_simp
        refine (HC2.out _).mono ?_
        rintro e w2 ⟨rfl, hb2⟩
        have hnew3 := Blk.later hnew2 hb2; have hbel3 := below_then hbel2 hbel2.size hb2; clear hb2 hnew2 hbel2; have hnew2 := hnew3; have hbel2 := hbel3; clear hnew3 hbel3
        go_wp2_with fail
        refine hK.out _ _ ?_ (fun hHeld => ?_)
        · exact hS _ hnew2 hbel2
        clear hK K
        try simp only [Act.put, List.setIfInBounds_toArray, List.set_cons_zero, List.set_cons_succ]
        refine wpAnyH_ready (rs := [15]) (by kernel_rfl) (by simp) ?_
        refine AllReadyH.consL rfl (fun K hK => ?_) ?_
        · go_simp
          refine hK.out _ _ ?_ (fun hHeld => ?_)
          · exact hS _ (hnew2.alloc _) (below_alloc hbel2 _)
          clear hK K
          try simp only [Act.put, List.setIfInBounds_toArray, List.set_cons_zero, List.set_cons_succ]
          refine wpAnyH_ready (rs := [16]) (by kernel_rfl) (by simp) ?_
          refine AllReadyH.consL rfl (fun K hK => ?_) ?_
          · go_simp
            refine hK.out _ _ ?_ (fun hHeld => ?_)
            · exact hS _ (hnew2.alloc _) (below_alloc hbel2 _)
            clear hK K
            try simp only [Act.put, List.setIfInBounds_toArray, List.set_cons_zero, List.set_cons_succ]
            refine wpAnyH_takeL (i := 17) (v := ?_) rfl (by kernel_rfl) (by kernel_rfl) (by kernel_rfl) (fun _ _ _ h => h) (Or.inl ⟨by rfl, ?_⟩) hHeld ?_
            rotate_left
            · intro w hSw
              (try dsimp only at hSw)
              go_simp
              all_goals with_reducible rfl
            try simp only [Act.put, List.setIfInBounds_toArray, List.set_cons_zero, List.set_cons_succ]
            refine wpAnyH_done (by kernel_rfl) ?_ _
            go_wp2_with fail
            go_ret
            exact ⟨by rw [HR.out]; rfl, below_alloc hbel2 _⟩
          exact AllReadyH.nil
        exact AllReadyH.nil
      exact AllReadyH.nil
    exact AllReadyH.nil
  exact AllReadyH.nil
end Go.Proofs.YtlmgkmmdaecpdaaDoor.Im

namespace Go.Proofs.YtlmgkmmdaecpdaaDoor.Im
open Go.RowKit Go.Proofs.YtlmgkmmdaecpdaaDoorW.PrintWords Go.Proofs.YtlmgkmmdaecpdaaDoorW.PrintLast Go.Proofs.YtlmgkmmdaecpdaaDoorW.PrintMore Go.Proofs.YtlmgkmmdaecpdaaDoor.Mi
set_option linter.unusedVariables false
theorem celR_cons (k i j d : Nat) : (List.range (d + 1)).map (fun t => cel k i (j + t)) = cel k i j :: (List.range d).map (fun t => cel k i (j + 1 + t)) := by
  rw [List.range_succ_eq_map, List.map_cons, List.map_map]
  congr 1
  apply List.map_congr_left
  intro t _
  show cel k i (j + (t + 1)) = cel k i (j + 1 + t)
  congr 1
  omega
theorem cells_l2 (n k i : Nat) (hn : n ≤ 20) (hk : k ≤ 1) (hi : i < n) (R : List S77) : ∀ (d j : Nat) (acc : List S77), j + d = n - k - i → acc.length ≤ 2000 + j →
    Gives (fun q => pomaderef04_Cells.l1 q n (acc ++ (List.range d).map (fun t => cel k i (j + t))) k ((i + 1 : Nat) : Int)) R → Gives (fun q => pomaderef04_Cells.l2 q n acc k i j) R
  | 0, j, acc, h, ha, hg => by
    have e : acc ++ (List.range 0).map (fun t => cel k i (j + t)) = acc := by simp
    rw [e] at hg
    refine hg.step fun q hq => ?_
    simp only [pomaderef04_Cells.l2]
    rw [wr_small (x := (i : Int) + (j : Int)) (by omega) (by omega), wr_small (x := (n : Int) - (k : Int)) (by omega) (by omega), if_neg (by omega), wr_succ i (by omega)]
    exact hq
  | d + 1, j, acc, h, ha, hg => by
    refine (cells_l2 n k i hn hk hi R d (j + 1) (acc ++ [cel k i j]) (by omega) (by rw [List.length_append]; simp; omega) ?_).step fun q hq => ?_
    · rw [List.append_assoc]
      rw [celR_cons] at hg
      exact hg
    · simp only [pomaderef04_Cells.l2]
      rw [wr_small (x := (i : Int) + (j : Int)) (by omega) (by omega), wr_small (x := (n : Int) - (k : Int)) (by omega) (by omega), if_pos (by omega), if_pos (by omega), wr_succ j (by omega)]
      exact hq
theorem celI_cons (n k i d : Nat) : (List.range (d + 1)).flatMap (fun t => celR k (i + t) (n - k - (i + t))) = celR k i (n - k - i) ++ (List.range d).flatMap (fun t => celR k (i + 1 + t) (n - k - (i + 1 + t))) := by
  rw [List.range_succ_eq_map, List.flatMap_cons, List.flatMap_map]
  congr 1
  congr 1
  funext t
  rw [show i + t.succ = i + 1 + t by omega]
theorem cells_l1 (n k : Nat) (hn : n ≤ 20) (hk : k ≤ 1) (R : List S77) : ∀ (d i : Nat) (acc : List S77), i + d = n → acc.length ≤ 1000 + i * 20 →
    Gives (fun q => pomaderef04_Cells.l0 q n (acc ++ (List.range d).flatMap (fun t => celR k (i + t) (n - k - (i + t)))) ((k + 1 : Nat) : Int)) R → Gives (fun q => pomaderef04_Cells.l1 q n acc k i) R
  | 0, i, acc, h, ha, hg => by
    have e : acc ++ (List.range 0).flatMap (fun t => celR k (i + t) (n - k - (i + t))) = acc := by simp
    rw [e] at hg
    refine hg.step fun q hq => ?_
    simp only [pomaderef04_Cells.l1]
    rw [if_neg (by omega), wr_succ k (by omega)]
    exact hq
  | d + 1, i, acc, h, ha, hg => by
    have h2 := cells_l2 n k i hn hk (by omega) R (n - k - i) 0 acc (by omega) (by omega) (by
      have e : (List.range (n - k - i)).map (fun t => cel k i (0 + t)) = celR k i (n - k - i) := by
        unfold celR
        apply List.map_congr_left
        intro t _
        rw [Nat.zero_add]
      rw [e]
      refine cells_l1 n k hn hk R d (i + 1) _ (by omega) (by rw [List.length_append, celR_len]; omega) ?_
      rw [List.append_assoc, ← celI_cons]
      exact hg)
    refine h2.step fun q hq => ?_
    simp only [pomaderef04_Cells.l1]
    rw [if_pos (by omega)]
    exact hq
theorem cells_g (n : Nat) (h1 : 1 ≤ n) (hn : n ≤ 20) : Gives (fun q => pomaderef04_Cells.f q n) (cellsL n) := by
  have eI : ∀ k, (List.range n).flatMap (fun t => celR k (0 + t) (n - k - (0 + t))) = celI n k n := fun k => by
    unfold celI
    congr 1
    funext t
    rw [Nat.zero_add]
  have e1 : celI n 1 n = celI n 1 (n - 1) := by
    obtain ⟨m, rfl⟩ : ∃ m, n = m + 1 := ⟨n - 1, by omega⟩
    rw [celI_succ, Nat.add_sub_cancel, Nat.sub_self]
    simp [celR]
  have e0 : cellsL n = celI n 0 n ++ celI n 1 (n - 1) := by
    rw [show cellsL n = celK n (1 + 1) from rfl, celK_succ, show celK n 1 = celK n (0 + 1) from rfl, celK_succ]
    rfl
  have hl0 : (celI n 0 n).length ≤ 400 := by
    have := celI_len hn 0 n
    omega
  have s2 : Gives (fun q => pomaderef04_Cells.l0 q n (cellsL n) ((1 + 1 : Nat) : Int)) (cellsL n) := Gives.now fun q => by
    simp only [pomaderef04_Cells.l0]
    rw [if_neg (by omega)]
  have s1 : Gives (fun q => pomaderef04_Cells.l1 q n (celI n 0 n) ((1 : Nat) : Int) ((0 : Nat) : Int)) (cellsL n) := cells_l1 n 1 hn (Nat.le_refl _) _ n 0 _ (by omega) (by omega) (by rw [eI, e1, ← e0]; exact s2)
  have s0 : Gives (fun q => pomaderef04_Cells.l0 q n (celI n 0 n) ((0 + 1 : Nat) : Int)) (cellsL n) := s1.step fun q hq => by
    simp only [pomaderef04_Cells.l0]
    rw [if_pos (by omega)]
    exact hq
  have t1 : Gives (fun q => pomaderef04_Cells.l1 q n [] ((0 : Nat) : Int) ((0 : Nat) : Int)) (cellsL n) := cells_l1 n 0 hn (by omega) _ n 0 _ (by omega) (by simp) (by rw [eI, List.nil_append]; exact s0)
  refine t1.step fun q hq => ?_
  simp only [pomaderef04_Cells.f, pomaderef04_Cells.l0]
  rw [if_pos (by decide)]
  exact hq
theorem rcells_any (n : Nat) (h1 : 1 ≤ n) (hn : n ≤ 20) (w : World) : Calls Tryd.prog 56 #[.int .i64 n] w fun e w' => ∃ v, e = .returned v ∧ Kd.R k77 77 w' w.heap.size (fun _ => True) v (cellsL n) ∧ Below w.heap.size w w' := by
  obtain ⟨k0, hk0⟩ := cells_g n h1 hn
  exact pomaderef04_Cells.calls k0 n _ w (hk0 k0 (Nat.le_refl _))
end Go.Proofs.YtlmgkmmdaecpdaaDoor.Im

namespace Go.Proofs.YtlmgkmmdaecpdaaDoor.Im
open Go.RowKit Go.Proofs.YtlmgkmmdaecpdaaDoorW.PrintWords Go.Proofs.YtlmgkmmdaecpdaaDoorW.PrintLast Go.Proofs.YtlmgkmmdaecpdaaDoorW.PrintMore Go.Proofs.YtlmgkmmdaecpdaaDoor.Mi
set_option linter.unusedVariables false
set_option linter.unusedSimpArgs false
theorem cell_below {w w' : World} {a : Addr} {v : Value} (hb : Below w.heap.size w w') (h : w.cell? a = some v) : w'.cell? a = some v := (hb.cell (World.block_lt_of_cell? w a h)).trans h
theorem told_any (n : Nat) (s : ByteArray) (k i j : Nat) (w : World) (hn : n ≤ 20) (hk : k ≤ 1) (hij : i + j + k + 1 ≤ n) (hs : s.size = offT n (n + 1)) :
    Calls Tryd.prog 58 #[.int .i64 n, .string s, .agg #[.int .i64 (k : Nat), .int .i64 (i : Nat), .int .i64 (j : Nat)]] w fun e w' => e = .returned (.string (txtB n s.data.toList k i j)) ∧ Below w.heap.size w w' := by
  rcases (show k = 0 ∨ k = 1 by omega) with rfl | rfl
  · exact told_0 n s i j w hn (by omega) hs
  · exact told_1 n s i j w hn (by omega) hs
theorem Col.txt {n : Nat} {l : List UInt8} (h : Col n l) {k i j : Nat} (hk : k ≤ 1) (hij : i + j + k + 1 ≤ n) : ∃ x y z, txtB n l k i j = ⟨#[x, y, z]⟩ ∧ x ∈ three ∧ y ∈ three ∧ z ∈ three := by
  rcases (show k = 0 ∨ k = 1 by omega) with rfl | rfl
  · exact ⟨_, _, _, rfl, mem_three (h.byte (show i + j ≤ n by omega)), mem_three (h.byte (show (i + 1) + j ≤ n by omega)), mem_three (h.byte (show i + (j + 1) ≤ n by omega))⟩
  · exact ⟨_, _, _, rfl, mem_three (h.byte (show (i + 1) + j ≤ n by omega)), mem_three (h.byte (show i + (j + 1) ≤ n by omega)), mem_three (h.byte (show (i + 1) + (j + 1) ≤ n by omega))⟩
theorem rfull_cell {n : Nat} {l : List UInt8} (h : Col n l) {k i j : Nat} (hk : k ≤ 1) (hij : i + j + k + 1 ≤ n) (w : World) : Calls Tryd.prog 57 #[.string (txtB n l k i j)] w fun e w' => e = .returned (.bool (fulB (txtB n l k i j))) ∧ Below w.heap.size w w' := by
  obtain ⟨x, y, z, e, h1, h2, h3⟩ := h.txt hk hij
  rw [e]
  exact rfull_any x y z h1 h2 h3 w
end Go.Proofs.YtlmgkmmdaecpdaaDoor.Im

namespace Go.Proofs.YtlmgkmmdaecpdaaDoor.Im
open Go.RowKit Go.Proofs.YtlmgkmmdaecpdaaDoorW.PrintWords Go.Proofs.YtlmgkmmdaecpdaaDoorW.PrintLast Go.Proofs.YtlmgkmmdaecpdaaDoorW.PrintMore
attribute [local go_sem] max2_int min2_int max_two min_two max_three min_three max_four min_four
set_option linter.unusedVariables false
set_option linter.unusedSimpArgs false
def pomaderef04_Door.f (k : Nat) (a0 : Int) (a1 : ByteArray) (a2_0 : Int) (a2_1 : Int) (a3_0 : Int) (a3_1 : Int) : Option (Bool) := (pomaderef04_colour.f k a0 a1 a2_0 a2_1).bind fun t243 => ((pomaderef04_colour.f k a0 a1 a3_0 a3_1).bind fun t244 => (if t243 = 48 then (if t244 = 49 then (some true) else (if t243 = 49 then (some (t244 == 48)) else (some false))) else (if t243 = 49 then (some (t244 == 48)) else (some false))))
theorem pomaderef04_Door.mono : ∀ a0 a1 a2 a3 a4 a5 k, LeO (pomaderef04_Door.f k a0 a1 a2 a3 a4 a5) (pomaderef04_Door.f (k + 1) a0 a1 a2 a3 a4 a5) := by
  intro a0 a1 a2 a3 a4 a5 k
  unfold pomaderef04_Door.f
  repeat' first
      | (with_reducible exact pomaderef04_colour.mono _ _ _ _ _)
      | (with_reducible exact LeO.refl _)
      | (with_reducible exact LeO.none _)
      | (with_reducible refine LeO.ite ?_ ?_)
      | (with_reducible refine LeO.bind ?_ (fun _ => ?_))
      | exact pomaderef04_colour.mono _ _ _ _ _
      | exact LeO.none _
      | refine LeO.ite ?_ ?_
      | refine LeO.bind ?_ (fun _ => ?_)
def pomaderef04_Door.T1 : Bool × List (List Nat × List Nat) := (true, [([], []), ([], []), ([], []), ([0, 1, 2], [0, 1, 2]), ([], []), ([], []), ([], []), ([4, 5, 6, 3], [4, 5, 6]), ([3, 7, 0, 1, 2, 3], [3]), ([7, 8, 0, 1, 2, 3, 4, 5, 6, 7, 8], [7])])
def pomaderef04_Door.B1 : List Nat := [0, 0, 0, 7, 0, 0, 0, 127, 255, 511]
theorem pomaderef04_Door.tab1 : rtab .any (opsOf Tryd.f39 1) = pomaderef04_Door.T1 := by kernel_rfl
theorem pomaderef04_Door.bits1 : waitsOk pomaderef04_Door.T1.2 pomaderef04_Door.B1 = true := by kernel_rfl
set_option maxHeartbeats 8000000 in
set_option maxRecDepth 100000 in
theorem pomaderef04_Door.calls (k : Nat) (a0 : Int) (a1 : ByteArray) (a2_0 : Int) (a2_1 : Int) (a3_0 : Int) (a3_1 : Int) (r : Bool) (w : World) (h : pomaderef04_Door.f k a0 a1 a2_0 a2_1 a3_0 a3_1 = some r) :
    Calls Tryd.prog 39 #[.int .i64 a0, .string a1, .agg #[.int .i64 a2_0, .int .i64 a2_1], .agg #[.int .i64 a3_0, .int .i64 a3_1]] w fun e w' => e = .returned (.bool r) ∧ Below w.heap.size w w' := by
  have hu52 := Tryd.underlying52
  have HB := Aside0.mk (Below.refl w.heap.size w)
  have H : ((pomaderef04_colour.f k a0 a1 a2_0 a2_1).bind fun t243 => ((pomaderef04_colour.f k a0 a1 a3_0 a3_1).bind fun t244 => (if t243 = 48 then (if t244 = 49 then (some true) else (if t243 = 49 then (some (t244 == 48)) else (some false))) else (if t243 = 49 then (some (t244 == 48)) else (some false))))) = some r := h
  clear h
  replace H := Option.bind_eq_some_iff.mp H
  obtain ⟨t243, A50, H⟩ := H
  replace H : ((pomaderef04_colour.f k a0 a1 a3_0 a3_1).bind fun t244 => (if t243 = 48 then (if t244 = 49 then (some true) else (if t243 = 49 then (some (t244 == 48)) else (some false))) else (if t243 = 49 then (some (t244 == 48)) else (some false)))) = some r := H
  have A5 := Aside0.mk A50
  clear A50
  replace H := Option.bind_eq_some_iff.mp H
  obtain ⟨t244, A60, H⟩ := H
  replace H : (if t243 = 48 then (if t244 = 49 then (some true) else (if t243 = 49 then (some (t244 == 48)) else (some false))) else (if t243 = 49 then (some (t244 == 48)) else (some false))) = some r := H
  have A6 := Aside0.mk A60
  clear A60
  by_cases c7 : t243 = 48
  · rw [if_pos c7] at H
    have c7b0 : (t243 == 48) = true := beq_iff_eq.mpr c7
    have c7b1 : (t243 != 48) = false := bne_eq_false_iff_eq.mpr c7
    clear c7
    by_cases c8 : t244 = 49
    · rw [if_pos c8] at H
      have c8b0 : (t244 == 49) = true := beq_iff_eq.mpr c8
      have c8b1 : (t244 != 49) = false := bne_eq_false_iff_eq.mpr c8
      clear c8
      obtain rfl := Option.some.inj H
      go_enter Tryd.func39, Tryd.ntmps39
      try go_wp2_with (first | ((with_reducible refine gate_dst (N := 6) rfl ?_); refine box_event ?hg (N := 6) ?hd (cs := #[.int .i64 a2_0, .int .i64 a2_1]) (t := 52) ?hr ?_; (case hd => rfl); (case hg => rfl); (case hr => first | (go_simp; done) | (go_simp; rfl)); intro gb241 hg w9 hbox hb; have n0_ := Aside0.mk (below_step (by repeat (first | (with_reducible first | exact HB.out | apply below_alloc | apply pw_below_drewN | apply below_drew1) | exact HB.out)) hb); have n1_ := Aside0.mk (hbox); have n2_ := Aside0.mk ((by rw [hg]; exact (below_size (by repeat (first | (with_reducible first | exact HB.out | apply below_alloc | apply pw_below_drewN | apply below_drew1) | exact HB.out))) : w.heap.size ≤ gb241)); have n3_ := Aside0.mk ((by rw [hg]; exact (below_size (by repeat (first | (with_reducible first | exact HB.out | apply below_alloc | apply pw_below_drewN | apply below_drew1) | exact HB.out))) : w.heap.size ≤ gb241)); clear HB; have HB := n0_; have BK241 := n1_; have GW241 := n2_; have GE241 := n3_; clear n0_ n1_ n2_ n3_; clear hb hbox hg) | ((with_reducible refine gate_dst (N := 7) rfl ?_); refine box_event ?hg (N := 7) ?hd (cs := #[.int .i64 a3_0, .int .i64 a3_1]) (t := 52) ?hr ?_; (case hd => rfl); (case hg => rfl); (case hr => first | (go_simp; done) | (go_simp; rfl)); intro gb242 hg w10 hbox hb; have n0_ := Aside0.mk (blk_below (g := gb241) (o := .cells #[.int .i64 a2_0, .int .i64 a2_1] 52 (0, 0)) (by (with_reducible repeat (first | refine blk_drewN ?_ _ | refine blk_drew ?_ | refine blk_alloc ?_ _)); exact BK241.out) hb); have n1_ := Aside0.mk (below_step (by repeat (first | (with_reducible first | exact HB.out | apply below_alloc | apply pw_below_drewN | apply below_drew1 | refine below_set ?_ GE241.out) | exact HB.out)) hb); have n2_ := Aside0.mk (hbox); have n3_ := Aside0.mk ((by rw [hg]; exact (below_size (by repeat (first | (with_reducible first | exact HB.out | apply below_alloc | apply pw_below_drewN | apply below_drew1 | refine below_set ?_ GE241.out) | exact HB.out))) : w.heap.size ≤ gb242)); have n4_ := Aside0.mk ((by rw [hg]; exact (below_size (by repeat (first | (with_reducible first | exact HB.out | apply below_alloc | apply pw_below_drewN | apply below_drew1 | refine below_set ?_ GE241.out) | exact HB.out))) : w.heap.size ≤ gb242)); have n5_ := Aside0.mk ((by rw [hg]; exact Nat.ne_of_lt (blk_lt (g := gb241) (o := .cells #[.int .i64 a2_0, .int .i64 a2_1] 52 (0, 0)) (by (with_reducible repeat (first | refine blk_drewN ?_ _ | refine blk_drew ?_ | refine blk_alloc ?_ _)); exact BK241.out)) : gb241 ≠ gb242)); have n6_ := Aside0.mk ((by rw [hg]; exact Nat.ne_of_gt (blk_lt (g := gb241) (o := .cells #[.int .i64 a2_0, .int .i64 a2_1] 52 (0, 0)) (by (with_reducible repeat (first | refine blk_drewN ?_ _ | refine blk_drew ?_ | refine blk_alloc ?_ _)); exact BK241.out)) : gb242 ≠ gb241)); clear BK241; clear HB; have BK241 := n0_; have HB := n1_; have BK242 := n2_; have GW242 := n3_; have GE242 := n4_; have NB241_242 := n5_; have NB242_241 := n6_; clear n0_ n1_ n2_ n3_ n4_ n5_ n6_; clear hb hbox hg))
      have n0_ := Aside0.mk (blk_drew BK241.out)
      have n1_ := Aside0.mk (blk_drew BK242.out)
      have n2_ := Aside0.mk (below_drew1 HB.out)
      clear BK241
      clear BK242
      clear HB
      have BK241 := n0_
      have BK242 := n1_
      have HB := n2_
      clear n0_ n1_ n2_
      refine start_ (n := 10) (S := fun w' => w'.cell? ⟨gb241, 0, none⟩ = some (.int .i64 a2_0) ∧ w'.cell? ⟨gb241, 1, none⟩ = some (.int .i64 a2_1) ∧ w'.cell? ⟨gb242, 0, none⟩ = some (.int .i64 a3_0) ∧ w'.cell? ⟨gb242, 1, none⟩ = some (.int .i64 a3_1)) (ds := []) #[false, false, false, false, false, false, false, false, false, false] (by kernel_rfl) rfl rfl ⟨(blk_cell BK241.out 0).trans rfl, (blk_cell BK241.out 1).trans rfl, (blk_cell BK242.out 0).trans rfl, (blk_cell BK242.out 1).trans rfl⟩ (fun hHeld => ?_); refine with_tabW pomaderef04_Door.tab1 pomaderef04_Door.bits1 (fun HT_ HW_ => ?_)
      generalize w10.drew = w11 at BK241 BK242 HB hHeld ⊢
      refine pure_ (i := 0) (N := some 11) (v := ?_) (a' := ?_) #[true, false, false, false, false, false, false, false, false, false] rfl rfl (any_of HT_.out (by kernel_rfl)) (fun _ _ _ h => h) (Or.inl ⟨by rfl, ?_⟩) ?_ ?_
      rotate_left
      · intro w'
        go_simp
        with_reducible rfl
      rotate_left
      · simp only [Act.put, List.setIfInBounds_toArray, List.set_cons_zero, List.set_cons_succ, i64_w, i32_w]
        rfl
      refine pure_ (i := 1) (N := some 12) (v := ?_) (a' := ?_) #[true, true, false, false, false, false, false, false, false, false] rfl rfl (any_of HT_.out (by kernel_rfl)) (fun _ _ _ h => h) (Or.inl ⟨by rfl, ?_⟩) ?_ ?_
      rotate_left
      · intro w'
        go_simp
        with_reducible rfl
      rotate_left
      · simp only [Act.put, List.setIfInBounds_toArray, List.set_cons_zero, List.set_cons_succ, i64_w, i32_w]
        rfl
      refine pure_ (i := 4) (N := some 15) (v := ?_) (a' := ?_) #[true, true, false, false, true, false, false, false, false, false] rfl rfl (any_of HT_.out (by kernel_rfl)) (fun _ _ _ h => h) (Or.inl ⟨by rfl, ?_⟩) ?_ ?_
      rotate_left
      · intro w'
        go_simp
        with_reducible rfl
      rotate_left
      · simp only [Act.put, List.setIfInBounds_toArray, List.set_cons_zero, List.set_cons_succ, i64_w, i32_w]
        rfl
      refine pure_ (i := 5) (N := some 16) (v := ?_) (a' := ?_) #[true, true, false, false, true, true, false, false, false, false] rfl rfl (any_of HT_.out (by kernel_rfl)) (fun _ _ _ h => h) (Or.inl ⟨by rfl, ?_⟩) ?_ ?_
      rotate_left
      · intro w'
        go_simp
        with_reducible rfl
      rotate_left
      · simp only [Act.put, List.setIfInBounds_toArray, List.set_cons_zero, List.set_cons_succ, i64_w, i32_w]
        rfl
      refine take_ (i := 2) (N := some 13) (v := ?_) (a' := ?_) #[true, true, true, false, true, true, false, false, false, false] rfl rfl (take_ofW HT_.out HW_.out (by kernel_rfl)) (fun _ _ _ h => h) (Or.inl ⟨by rfl, ?_⟩) hHeld ?_ ?_
      rotate_left
      · rintro w' ⟨s0, s1, s2, s3⟩
        go_simp
        with_reducible rfl
      rotate_left
      · simp only [Act.put, List.setIfInBounds_toArray, List.set_cons_zero, List.set_cons_succ, i64_w, i32_w]
        rfl
      refine take_ (i := 6) (N := some 17) (v := ?_) (a' := ?_) #[true, true, true, false, true, true, true, false, false, false] rfl rfl (take_ofW HT_.out HW_.out (by kernel_rfl)) (fun _ _ _ h => h) (Or.inl ⟨by rfl, ?_⟩) hHeld ?_ ?_
      rotate_left
      · rintro w' ⟨s0, s1, s2, s3⟩
        go_simp
        with_reducible rfl
      rotate_left
      · simp only [Act.put, List.setIfInBounds_toArray, List.set_cons_zero, List.set_cons_succ, i64_w, i32_w]
        rfl
      refine one_ (i := 3) (N := some 14) #[true, true, true, true, true, true, true, false, false, false] rfl rfl (one_of HT_.out (by kernel_rfl)) (by decide) (fun K hK => ?_)
      refine goes_ Tryd.func73 (by kernel_rfl) rfl #[.int .i64 a0, .string a1, .agg #[.int .i64 a2_0, .int .i64 a2_1]] (by rfl) rfl rfl (by (try simp only [List.map_toArray, List.map_cons, List.map_nil]); first | done | rfl | (simp only [List.length_drop, List.length_take]; rfl)) ?_
      with_reducible refine (pomaderef04_colour.calls k a0 a1 a2_0 a2_1 t243 _ A5.out).mono ?_
      rintro e w12 ⟨rfl, hb⟩
      refine ⟨_, rfl, ?_⟩
      have n0_ := Aside0.mk (blk_below (g := gb241) (o := .cells #[.int .i64 a2_0, .int .i64 a2_1] 52 (0, 0)) (by (with_reducible repeat (first | refine blk_drewN ?_ _ | refine blk_drew ?_ | refine blk_alloc ?_ _)); exact BK241.out) hb)
      have n1_ := Aside0.mk (blk_below (g := gb242) (o := .cells #[.int .i64 a3_0, .int .i64 a3_1] 52 (0, 0)) (by (with_reducible repeat (first | refine blk_drewN ?_ _ | refine blk_drew ?_ | refine blk_alloc ?_ _)); exact BK242.out) hb)
      have n2_ := Aside0.mk (below_step (by repeat (first | (with_reducible first | exact HB.out | apply below_alloc | apply pw_below_drewN | apply below_drew1 | refine below_set ?_ GE241.out | refine below_set ?_ GE242.out) | exact HB.out)) hb)
      clear BK241
      clear BK242
      clear HB
      have BK241 := n0_
      have BK242 := n1_
      have HB := n2_
      clear n0_ n1_ n2_
      (try clear hb)
      (try clear hb2)
      (try clear hk)
      (try clear hi)
      refine hK.out _ _ ⟨(blk_cell BK241.out 0).trans rfl, (blk_cell BK241.out 1).trans rfl, (blk_cell BK242.out 0).trans rfl, (blk_cell BK242.out 1).trans rfl⟩ (fun hHeld => ?_)
      clear hK K
      refine norm_ (a' := ?_) ?_ ?_
      rotate_left
      · show Act.put _ (some 14) _ = _
        simp only [Act.put, List.setIfInBounds_toArray, List.set_cons_zero, List.set_cons_succ, i64_w, i32_w]
        rfl
      refine one_ (i := 7) (N := some 18) #[true, true, true, true, true, true, true, true, false, false] rfl rfl (one_of HT_.out (by kernel_rfl)) (by decide) (fun K hK => ?_)
      refine goes_ Tryd.func73 (by kernel_rfl) rfl #[.int .i64 a0, .string a1, .agg #[.int .i64 a3_0, .int .i64 a3_1]] (by rfl) rfl rfl (by (try simp only [List.map_toArray, List.map_cons, List.map_nil]); first | done | rfl | (simp only [List.length_drop, List.length_take]; rfl)) ?_
      with_reducible refine (pomaderef04_colour.calls k a0 a1 a3_0 a3_1 t244 _ A6.out).mono ?_
      rintro e w13 ⟨rfl, hb⟩
      refine ⟨_, rfl, ?_⟩
      have n0_ := Aside0.mk (blk_below (g := gb241) (o := .cells #[.int .i64 a2_0, .int .i64 a2_1] 52 (0, 0)) (by (with_reducible repeat (first | refine blk_drewN ?_ _ | refine blk_drew ?_ | refine blk_alloc ?_ _)); exact BK241.out) hb)
      have n1_ := Aside0.mk (blk_below (g := gb242) (o := .cells #[.int .i64 a3_0, .int .i64 a3_1] 52 (0, 0)) (by (with_reducible repeat (first | refine blk_drewN ?_ _ | refine blk_drew ?_ | refine blk_alloc ?_ _)); exact BK242.out) hb)
      have n2_ := Aside0.mk (below_step (by repeat (first | (with_reducible first | exact HB.out | apply below_alloc | apply pw_below_drewN | apply below_drew1 | refine below_set ?_ GE241.out | refine below_set ?_ GE242.out) | exact HB.out)) hb)
      clear BK241
      clear BK242
      clear HB
      have BK241 := n0_
      have BK242 := n1_
      have HB := n2_
      clear n0_ n1_ n2_
      (try clear hb)
      (try clear hb2)
      (try clear hk)
      (try clear hi)
      refine hK.out _ _ ⟨(blk_cell BK241.out 0).trans rfl, (blk_cell BK241.out 1).trans rfl, (blk_cell BK242.out 0).trans rfl, (blk_cell BK242.out 1).trans rfl⟩ (fun hHeld => ?_)
      clear hK K
      refine norm_ (a' := ?_) ?_ ?_
      rotate_left
      · show Act.put _ (some 18) _ = _
        simp only [Act.put, List.setIfInBounds_toArray, List.set_cons_zero, List.set_cons_succ, i64_w, i32_w]
        rfl
      refine pure_ (i := 8) (N := some 9) (v := ?_) (a' := ?_) #[true, true, true, true, true, true, true, true, true, false] rfl rfl (any_of HT_.out (by kernel_rfl)) (fun _ _ _ h => h) (Or.inl ⟨by rfl, ?_⟩) ?_ ?_
      rotate_left
      · intro w'
        go_simp
        with_reducible rfl
      rotate_left
      · simp only [Act.put, List.setIfInBounds_toArray, List.set_cons_zero, List.set_cons_succ, i64_w, i32_w]
        rfl
      refine pure_ (i := 9) (N := some 10) (v := ?_) (a' := ?_) #[true, true, true, true, true, true, true, true, true, true] rfl rfl (any_of HT_.out (by kernel_rfl)) (fun _ _ _ h => h) (Or.inl ⟨by rfl, ?_⟩) ?_ ?_
      rotate_left
      · intro w'
        go_simp
        with_reducible rfl
      rotate_left
      · simp only [Act.put, List.setIfInBounds_toArray, List.set_cons_zero, List.set_cons_succ, i64_w, i32_w]
        rfl
      refine done_ (done_of HT_.out (by kernel_rfl)) ?_
      try go_wp2
      go_ret
      exact ⟨by first | rfl | (simp [errW_none, errW_some] <;> rfl) | (simp [*, errW_none, errW_some] <;> rfl), by repeat (first | (with_reducible first | exact HB.out | apply below_alloc | apply pw_below_drewN | apply below_drew1 | refine below_set ?_ GE241.out | refine below_set ?_ GE242.out) | exact HB.out)⟩
    · rw [if_neg c8] at H
      have c8b0 : (t244 == 49) = false := beq_eq_false_iff_ne.mpr c8
      have c8b1 : (t244 != 49) = true := bne_iff_ne.mpr c8
      by_cases c14 : t243 = 49
      · rw [if_pos c14] at H
        have c14b0 : (t243 == 49) = true := beq_iff_eq.mpr c14
        have c14b1 : (t243 != 49) = false := bne_eq_false_iff_eq.mpr c14
        clear c14
        obtain rfl := Option.some.inj H
        go_enter Tryd.func39, Tryd.ntmps39
        try go_wp2_with (first | ((with_reducible refine gate_dst (N := 6) rfl ?_); refine box_event ?hg (N := 6) ?hd (cs := #[.int .i64 a2_0, .int .i64 a2_1]) (t := 52) ?hr ?_; (case hd => rfl); (case hg => rfl); (case hr => first | (go_simp; done) | (go_simp; rfl)); intro gb241 hg w15 hbox hb; have n0_ := Aside0.mk (below_step (by repeat (first | (with_reducible first | exact HB.out | apply below_alloc | apply pw_below_drewN | apply below_drew1) | exact HB.out)) hb); have n1_ := Aside0.mk (hbox); have n2_ := Aside0.mk ((by rw [hg]; exact (below_size (by repeat (first | (with_reducible first | exact HB.out | apply below_alloc | apply pw_below_drewN | apply below_drew1) | exact HB.out))) : w.heap.size ≤ gb241)); have n3_ := Aside0.mk ((by rw [hg]; exact (below_size (by repeat (first | (with_reducible first | exact HB.out | apply below_alloc | apply pw_below_drewN | apply below_drew1) | exact HB.out))) : w.heap.size ≤ gb241)); clear HB; have HB := n0_; have BK241 := n1_; have GW241 := n2_; have GE241 := n3_; clear n0_ n1_ n2_ n3_; clear hb hbox hg) | ((with_reducible refine gate_dst (N := 7) rfl ?_); refine box_event ?hg (N := 7) ?hd (cs := #[.int .i64 a3_0, .int .i64 a3_1]) (t := 52) ?hr ?_; (case hd => rfl); (case hg => rfl); (case hr => first | (go_simp; done) | (go_simp; rfl)); intro gb242 hg w16 hbox hb; have n0_ := Aside0.mk (blk_below (g := gb241) (o := .cells #[.int .i64 a2_0, .int .i64 a2_1] 52 (0, 0)) (by (with_reducible repeat (first | refine blk_drewN ?_ _ | refine blk_drew ?_ | refine blk_alloc ?_ _)); exact BK241.out) hb); have n1_ := Aside0.mk (below_step (by repeat (first | (with_reducible first | exact HB.out | apply below_alloc | apply pw_below_drewN | apply below_drew1 | refine below_set ?_ GE241.out) | exact HB.out)) hb); have n2_ := Aside0.mk (hbox); have n3_ := Aside0.mk ((by rw [hg]; exact (below_size (by repeat (first | (with_reducible first | exact HB.out | apply below_alloc | apply pw_below_drewN | apply below_drew1 | refine below_set ?_ GE241.out) | exact HB.out))) : w.heap.size ≤ gb242)); have n4_ := Aside0.mk ((by rw [hg]; exact (below_size (by repeat (first | (with_reducible first | exact HB.out | apply below_alloc | apply pw_below_drewN | apply below_drew1 | refine below_set ?_ GE241.out) | exact HB.out))) : w.heap.size ≤ gb242)); have n5_ := Aside0.mk ((by rw [hg]; exact Nat.ne_of_lt (blk_lt (g := gb241) (o := .cells #[.int .i64 a2_0, .int .i64 a2_1] 52 (0, 0)) (by (with_reducible repeat (first | refine blk_drewN ?_ _ | refine blk_drew ?_ | refine blk_alloc ?_ _)); exact BK241.out)) : gb241 ≠ gb242)); have n6_ := Aside0.mk ((by rw [hg]; exact Nat.ne_of_gt (blk_lt (g := gb241) (o := .cells #[.int .i64 a2_0, .int .i64 a2_1] 52 (0, 0)) (by (with_reducible repeat (first | refine blk_drewN ?_ _ | refine blk_drew ?_ | refine blk_alloc ?_ _)); exact BK241.out)) : gb242 ≠ gb241)); clear BK241; clear HB; have BK241 := n0_; have HB := n1_; have BK242 := n2_; have GW242 := n3_; have GE242 := n4_; have NB241_242 := n5_; have NB242_241 := n6_; clear n0_ n1_ n2_ n3_ n4_ n5_ n6_; clear hb hbox hg))
        have n0_ := Aside0.mk (blk_drew BK241.out)
        have n1_ := Aside0.mk (blk_drew BK242.out)
        have n2_ := Aside0.mk (below_drew1 HB.out)
        clear BK241
        clear BK242
        clear HB
        have BK241 := n0_
        have BK242 := n1_
        have HB := n2_
        clear n0_ n1_ n2_
        refine start_ (n := 10) (S := fun w' => w'.cell? ⟨gb241, 0, none⟩ = some (.int .i64 a2_0) ∧ w'.cell? ⟨gb241, 1, none⟩ = some (.int .i64 a2_1) ∧ w'.cell? ⟨gb242, 0, none⟩ = some (.int .i64 a3_0) ∧ w'.cell? ⟨gb242, 1, none⟩ = some (.int .i64 a3_1)) (ds := []) #[false, false, false, false, false, false, false, false, false, false] (by kernel_rfl) rfl rfl ⟨(blk_cell BK241.out 0).trans rfl, (blk_cell BK241.out 1).trans rfl, (blk_cell BK242.out 0).trans rfl, (blk_cell BK242.out 1).trans rfl⟩ (fun hHeld => ?_); refine with_tabW pomaderef04_Door.tab1 pomaderef04_Door.bits1 (fun HT_ HW_ => ?_)
        generalize w16.drew = w17 at BK241 BK242 HB hHeld ⊢
        refine pure_ (i := 0) (N := some 11) (v := ?_) (a' := ?_) #[true, false, false, false, false, false, false, false, false, false] rfl rfl (any_of HT_.out (by kernel_rfl)) (fun _ _ _ h => h) (Or.inl ⟨by rfl, ?_⟩) ?_ ?_
        rotate_left
        · intro w'
          go_simp
          with_reducible rfl
        rotate_left
        · simp only [Act.put, List.setIfInBounds_toArray, List.set_cons_zero, List.set_cons_succ, i64_w, i32_w]
          rfl
        refine pure_ (i := 1) (N := some 12) (v := ?_) (a' := ?_) #[true, true, false, false, false, false, false, false, false, false] rfl rfl (any_of HT_.out (by kernel_rfl)) (fun _ _ _ h => h) (Or.inl ⟨by rfl, ?_⟩) ?_ ?_
        rotate_left
        · intro w'
          go_simp
          with_reducible rfl
        rotate_left
        · simp only [Act.put, List.setIfInBounds_toArray, List.set_cons_zero, List.set_cons_succ, i64_w, i32_w]
          rfl
        refine pure_ (i := 4) (N := some 15) (v := ?_) (a' := ?_) #[true, true, false, false, true, false, false, false, false, false] rfl rfl (any_of HT_.out (by kernel_rfl)) (fun _ _ _ h => h) (Or.inl ⟨by rfl, ?_⟩) ?_ ?_
        rotate_left
        · intro w'
          go_simp
          with_reducible rfl
        rotate_left
        · simp only [Act.put, List.setIfInBounds_toArray, List.set_cons_zero, List.set_cons_succ, i64_w, i32_w]
          rfl
        refine pure_ (i := 5) (N := some 16) (v := ?_) (a' := ?_) #[true, true, false, false, true, true, false, false, false, false] rfl rfl (any_of HT_.out (by kernel_rfl)) (fun _ _ _ h => h) (Or.inl ⟨by rfl, ?_⟩) ?_ ?_
        rotate_left
        · intro w'
          go_simp
          with_reducible rfl
        rotate_left
        · simp only [Act.put, List.setIfInBounds_toArray, List.set_cons_zero, List.set_cons_succ, i64_w, i32_w]
          rfl
        refine take_ (i := 2) (N := some 13) (v := ?_) (a' := ?_) #[true, true, true, false, true, true, false, false, false, false] rfl rfl (take_ofW HT_.out HW_.out (by kernel_rfl)) (fun _ _ _ h => h) (Or.inl ⟨by rfl, ?_⟩) hHeld ?_ ?_
        rotate_left
        · rintro w' ⟨s0, s1, s2, s3⟩
          go_simp
          with_reducible rfl
        rotate_left
        · simp only [Act.put, List.setIfInBounds_toArray, List.set_cons_zero, List.set_cons_succ, i64_w, i32_w]
          rfl
        refine take_ (i := 6) (N := some 17) (v := ?_) (a' := ?_) #[true, true, true, false, true, true, true, false, false, false] rfl rfl (take_ofW HT_.out HW_.out (by kernel_rfl)) (fun _ _ _ h => h) (Or.inl ⟨by rfl, ?_⟩) hHeld ?_ ?_
        rotate_left
        · rintro w' ⟨s0, s1, s2, s3⟩
          go_simp
          with_reducible rfl
        rotate_left
        · simp only [Act.put, List.setIfInBounds_toArray, List.set_cons_zero, List.set_cons_succ, i64_w, i32_w]
          rfl
        refine one_ (i := 3) (N := some 14) #[true, true, true, true, true, true, true, false, false, false] rfl rfl (one_of HT_.out (by kernel_rfl)) (by decide) (fun K hK => ?_)
        refine goes_ Tryd.func73 (by kernel_rfl) rfl #[.int .i64 a0, .string a1, .agg #[.int .i64 a2_0, .int .i64 a2_1]] (by rfl) rfl rfl (by (try simp only [List.map_toArray, List.map_cons, List.map_nil]); first | done | rfl | (simp only [List.length_drop, List.length_take]; rfl)) ?_
        with_reducible refine (pomaderef04_colour.calls k a0 a1 a2_0 a2_1 t243 _ A5.out).mono ?_
        rintro e w18 ⟨rfl, hb⟩
        refine ⟨_, rfl, ?_⟩
        have n0_ := Aside0.mk (blk_below (g := gb241) (o := .cells #[.int .i64 a2_0, .int .i64 a2_1] 52 (0, 0)) (by (with_reducible repeat (first | refine blk_drewN ?_ _ | refine blk_drew ?_ | refine blk_alloc ?_ _)); exact BK241.out) hb)
        have n1_ := Aside0.mk (blk_below (g := gb242) (o := .cells #[.int .i64 a3_0, .int .i64 a3_1] 52 (0, 0)) (by (with_reducible repeat (first | refine blk_drewN ?_ _ | refine blk_drew ?_ | refine blk_alloc ?_ _)); exact BK242.out) hb)
        have n2_ := Aside0.mk (below_step (by repeat (first | (with_reducible first | exact HB.out | apply below_alloc | apply pw_below_drewN | apply below_drew1 | refine below_set ?_ GE241.out | refine below_set ?_ GE242.out) | exact HB.out)) hb)
        clear BK241
        clear BK242
        clear HB
        have BK241 := n0_
        have BK242 := n1_
        have HB := n2_
        clear n0_ n1_ n2_
        (try clear hb)
        (try clear hb2)
        (try clear hk)
        (try clear hi)
        refine hK.out _ _ ⟨(blk_cell BK241.out 0).trans rfl, (blk_cell BK241.out 1).trans rfl, (blk_cell BK242.out 0).trans rfl, (blk_cell BK242.out 1).trans rfl⟩ (fun hHeld => ?_)
        clear hK K
        refine norm_ (a' := ?_) ?_ ?_
        rotate_left
        · show Act.put _ (some 14) _ = _
          simp only [Act.put, List.setIfInBounds_toArray, List.set_cons_zero, List.set_cons_succ, i64_w, i32_w]
          rfl
        refine one_ (i := 7) (N := some 18) #[true, true, true, true, true, true, true, true, false, false] rfl rfl (one_of HT_.out (by kernel_rfl)) (by decide) (fun K hK => ?_)
        refine goes_ Tryd.func73 (by kernel_rfl) rfl #[.int .i64 a0, .string a1, .agg #[.int .i64 a3_0, .int .i64 a3_1]] (by rfl) rfl rfl (by (try simp only [List.map_toArray, List.map_cons, List.map_nil]); first | done | rfl | (simp only [List.length_drop, List.length_take]; rfl)) ?_
        with_reducible refine (pomaderef04_colour.calls k a0 a1 a3_0 a3_1 t244 _ A6.out).mono ?_
        rintro e w19 ⟨rfl, hb⟩
        refine ⟨_, rfl, ?_⟩
        have n0_ := Aside0.mk (blk_below (g := gb241) (o := .cells #[.int .i64 a2_0, .int .i64 a2_1] 52 (0, 0)) (by (with_reducible repeat (first | refine blk_drewN ?_ _ | refine blk_drew ?_ | refine blk_alloc ?_ _)); exact BK241.out) hb)
        have n1_ := Aside0.mk (blk_below (g := gb242) (o := .cells #[.int .i64 a3_0, .int .i64 a3_1] 52 (0, 0)) (by (with_reducible repeat (first | refine blk_drewN ?_ _ | refine blk_drew ?_ | refine blk_alloc ?_ _)); exact BK242.out) hb)
        have n2_ := Aside0.mk (below_step (by repeat (first | (with_reducible first | exact HB.out | apply below_alloc | apply pw_below_drewN | apply below_drew1 | refine below_set ?_ GE241.out | refine below_set ?_ GE242.out) | exact HB.out)) hb)
        clear BK241
        clear BK242
        clear HB
        have BK241 := n0_
        have BK242 := n1_
        have HB := n2_
        clear n0_ n1_ n2_
        (try clear hb)
        (try clear hb2)
        (try clear hk)
        (try clear hi)
        refine hK.out _ _ ⟨(blk_cell BK241.out 0).trans rfl, (blk_cell BK241.out 1).trans rfl, (blk_cell BK242.out 0).trans rfl, (blk_cell BK242.out 1).trans rfl⟩ (fun hHeld => ?_)
        clear hK K
        refine norm_ (a' := ?_) ?_ ?_
        rotate_left
        · show Act.put _ (some 18) _ = _
          simp only [Act.put, List.setIfInBounds_toArray, List.set_cons_zero, List.set_cons_succ, i64_w, i32_w]
          rfl
        refine pure_ (i := 8) (N := some 9) (v := ?_) (a' := ?_) #[true, true, true, true, true, true, true, true, true, false] rfl rfl (any_of HT_.out (by kernel_rfl)) (fun _ _ _ h => h) (Or.inl ⟨by rfl, ?_⟩) ?_ ?_
        rotate_left
        · intro w'
          go_simp
          with_reducible rfl
        rotate_left
        · simp only [Act.put, List.setIfInBounds_toArray, List.set_cons_zero, List.set_cons_succ, i64_w, i32_w]
          rfl
        refine pure_ (i := 9) (N := some 10) (v := ?_) (a' := ?_) #[true, true, true, true, true, true, true, true, true, true] rfl rfl (any_of HT_.out (by kernel_rfl)) (fun _ _ _ h => h) (Or.inl ⟨by rfl, ?_⟩) ?_ ?_
        rotate_left
        · intro w'
          go_simp
          with_reducible rfl
        rotate_left
        · simp only [Act.put, List.setIfInBounds_toArray, List.set_cons_zero, List.set_cons_succ, i64_w, i32_w]
          rfl
        refine done_ (done_of HT_.out (by kernel_rfl)) ?_
        try go_wp2
        go_ret
        exact ⟨by first | rfl | (simp [errW_none, errW_some] <;> rfl) | (simp [*, errW_none, errW_some] <;> rfl), by repeat (first | (with_reducible first | exact HB.out | apply below_alloc | apply pw_below_drewN | apply below_drew1 | refine below_set ?_ GE241.out | refine below_set ?_ GE242.out) | exact HB.out)⟩
      · rw [if_neg c14] at H
        have c14b0 : (t243 == 49) = false := beq_eq_false_iff_ne.mpr c14
        have c14b1 : (t243 != 49) = true := bne_iff_ne.mpr c14
        obtain rfl := Option.some.inj H
        go_enter Tryd.func39, Tryd.ntmps39
        try go_wp2_with (first | ((with_reducible refine gate_dst (N := 6) rfl ?_); refine box_event ?hg (N := 6) ?hd (cs := #[.int .i64 a2_0, .int .i64 a2_1]) (t := 52) ?hr ?_; (case hd => rfl); (case hg => rfl); (case hr => first | (go_simp; done) | (go_simp; rfl)); intro gb241 hg w20 hbox hb; have n0_ := Aside0.mk (below_step (by repeat (first | (with_reducible first | exact HB.out | apply below_alloc | apply pw_below_drewN | apply below_drew1) | exact HB.out)) hb); have n1_ := Aside0.mk (hbox); have n2_ := Aside0.mk ((by rw [hg]; exact (below_size (by repeat (first | (with_reducible first | exact HB.out | apply below_alloc | apply pw_below_drewN | apply below_drew1) | exact HB.out))) : w.heap.size ≤ gb241)); have n3_ := Aside0.mk ((by rw [hg]; exact (below_size (by repeat (first | (with_reducible first | exact HB.out | apply below_alloc | apply pw_below_drewN | apply below_drew1) | exact HB.out))) : w.heap.size ≤ gb241)); clear HB; have HB := n0_; have BK241 := n1_; have GW241 := n2_; have GE241 := n3_; clear n0_ n1_ n2_ n3_; clear hb hbox hg) | ((with_reducible refine gate_dst (N := 7) rfl ?_); refine box_event ?hg (N := 7) ?hd (cs := #[.int .i64 a3_0, .int .i64 a3_1]) (t := 52) ?hr ?_; (case hd => rfl); (case hg => rfl); (case hr => first | (go_simp; done) | (go_simp; rfl)); intro gb242 hg w21 hbox hb; have n0_ := Aside0.mk (blk_below (g := gb241) (o := .cells #[.int .i64 a2_0, .int .i64 a2_1] 52 (0, 0)) (by (with_reducible repeat (first | refine blk_drewN ?_ _ | refine blk_drew ?_ | refine blk_alloc ?_ _)); exact BK241.out) hb); have n1_ := Aside0.mk (below_step (by repeat (first | (with_reducible first | exact HB.out | apply below_alloc | apply pw_below_drewN | apply below_drew1 | refine below_set ?_ GE241.out) | exact HB.out)) hb); have n2_ := Aside0.mk (hbox); have n3_ := Aside0.mk ((by rw [hg]; exact (below_size (by repeat (first | (with_reducible first | exact HB.out | apply below_alloc | apply pw_below_drewN | apply below_drew1 | refine below_set ?_ GE241.out) | exact HB.out))) : w.heap.size ≤ gb242)); have n4_ := Aside0.mk ((by rw [hg]; exact (below_size (by repeat (first | (with_reducible first | exact HB.out | apply below_alloc | apply pw_below_drewN | apply below_drew1 | refine below_set ?_ GE241.out) | exact HB.out))) : w.heap.size ≤ gb242)); have n5_ := Aside0.mk ((by rw [hg]; exact Nat.ne_of_lt (blk_lt (g := gb241) (o := .cells #[.int .i64 a2_0, .int .i64 a2_1] 52 (0, 0)) (by (with_reducible repeat (first | refine blk_drewN ?_ _ | refine blk_drew ?_ | refine blk_alloc ?_ _)); exact BK241.out)) : gb241 ≠ gb242)); have n6_ := Aside0.mk ((by rw [hg]; exact Nat.ne_of_gt (blk_lt (g := gb241) (o := .cells #[.int .i64 a2_0, .int .i64 a2_1] 52 (0, 0)) (by (with_reducible repeat (first | refine blk_drewN ?_ _ | refine blk_drew ?_ | refine blk_alloc ?_ _)); exact BK241.out)) : gb242 ≠ gb241)); clear BK241; clear HB; have BK241 := n0_; have HB := n1_; have BK242 := n2_; have GW242 := n3_; have GE242 := n4_; have NB241_242 := n5_; have NB242_241 := n6_; clear n0_ n1_ n2_ n3_ n4_ n5_ n6_; clear hb hbox hg))
        have n0_ := Aside0.mk (blk_drew BK241.out)
        have n1_ := Aside0.mk (blk_drew BK242.out)
        have n2_ := Aside0.mk (below_drew1 HB.out)
        clear BK241
        clear BK242
        clear HB
        have BK241 := n0_
        have BK242 := n1_
        have HB := n2_
        clear n0_ n1_ n2_
        refine start_ (n := 10) (S := fun w' => w'.cell? ⟨gb241, 0, none⟩ = some (.int .i64 a2_0) ∧ w'.cell? ⟨gb241, 1, none⟩ = some (.int .i64 a2_1) ∧ w'.cell? ⟨gb242, 0, none⟩ = some (.int .i64 a3_0) ∧ w'.cell? ⟨gb242, 1, none⟩ = some (.int .i64 a3_1)) (ds := []) #[false, false, false, false, false, false, false, false, false, false] (by kernel_rfl) rfl rfl ⟨(blk_cell BK241.out 0).trans rfl, (blk_cell BK241.out 1).trans rfl, (blk_cell BK242.out 0).trans rfl, (blk_cell BK242.out 1).trans rfl⟩ (fun hHeld => ?_); refine with_tabW pomaderef04_Door.tab1 pomaderef04_Door.bits1 (fun HT_ HW_ => ?_)
        generalize w21.drew = w22 at BK241 BK242 HB hHeld ⊢
        refine pure_ (i := 0) (N := some 11) (v := ?_) (a' := ?_) #[true, false, false, false, false, false, false, false, false, false] rfl rfl (any_of HT_.out (by kernel_rfl)) (fun _ _ _ h => h) (Or.inl ⟨by rfl, ?_⟩) ?_ ?_
        rotate_left
        · intro w'
          go_simp
          with_reducible rfl
        rotate_left
        · simp only [Act.put, List.setIfInBounds_toArray, List.set_cons_zero, List.set_cons_succ, i64_w, i32_w]
          rfl
        refine pure_ (i := 1) (N := some 12) (v := ?_) (a' := ?_) #[true, true, false, false, false, false, false, false, false, false] rfl rfl (any_of HT_.out (by kernel_rfl)) (fun _ _ _ h => h) (Or.inl ⟨by rfl, ?_⟩) ?_ ?_
        rotate_left
        · intro w'
          go_simp
          with_reducible rfl
        rotate_left
        · simp only [Act.put, List.setIfInBounds_toArray, List.set_cons_zero, List.set_cons_succ, i64_w, i32_w]
          rfl
        refine pure_ (i := 4) (N := some 15) (v := ?_) (a' := ?_) #[true, true, false, false, true, false, false, false, false, false] rfl rfl (any_of HT_.out (by kernel_rfl)) (fun _ _ _ h => h) (Or.inl ⟨by rfl, ?_⟩) ?_ ?_
        rotate_left
        · intro w'
          go_simp
          with_reducible rfl
        rotate_left
        · simp only [Act.put, List.setIfInBounds_toArray, List.set_cons_zero, List.set_cons_succ, i64_w, i32_w]
          rfl
        refine pure_ (i := 5) (N := some 16) (v := ?_) (a' := ?_) #[true, true, false, false, true, true, false, false, false, false] rfl rfl (any_of HT_.out (by kernel_rfl)) (fun _ _ _ h => h) (Or.inl ⟨by rfl, ?_⟩) ?_ ?_
        rotate_left
        · intro w'
          go_simp
          with_reducible rfl
        rotate_left
        · simp only [Act.put, List.setIfInBounds_toArray, List.set_cons_zero, List.set_cons_succ, i64_w, i32_w]
          rfl
        refine take_ (i := 2) (N := some 13) (v := ?_) (a' := ?_) #[true, true, true, false, true, true, false, false, false, false] rfl rfl (take_ofW HT_.out HW_.out (by kernel_rfl)) (fun _ _ _ h => h) (Or.inl ⟨by rfl, ?_⟩) hHeld ?_ ?_
        rotate_left
        · rintro w' ⟨s0, s1, s2, s3⟩
          go_simp
          with_reducible rfl
        rotate_left
        · simp only [Act.put, List.setIfInBounds_toArray, List.set_cons_zero, List.set_cons_succ, i64_w, i32_w]
          rfl
        refine take_ (i := 6) (N := some 17) (v := ?_) (a' := ?_) #[true, true, true, false, true, true, true, false, false, false] rfl rfl (take_ofW HT_.out HW_.out (by kernel_rfl)) (fun _ _ _ h => h) (Or.inl ⟨by rfl, ?_⟩) hHeld ?_ ?_
        rotate_left
        · rintro w' ⟨s0, s1, s2, s3⟩
          go_simp
          with_reducible rfl
        rotate_left
        · simp only [Act.put, List.setIfInBounds_toArray, List.set_cons_zero, List.set_cons_succ, i64_w, i32_w]
          rfl
        refine one_ (i := 3) (N := some 14) #[true, true, true, true, true, true, true, false, false, false] rfl rfl (one_of HT_.out (by kernel_rfl)) (by decide) (fun K hK => ?_)
        refine goes_ Tryd.func73 (by kernel_rfl) rfl #[.int .i64 a0, .string a1, .agg #[.int .i64 a2_0, .int .i64 a2_1]] (by rfl) rfl rfl (by (try simp only [List.map_toArray, List.map_cons, List.map_nil]); first | done | rfl | (simp only [List.length_drop, List.length_take]; rfl)) ?_
        with_reducible refine (pomaderef04_colour.calls k a0 a1 a2_0 a2_1 t243 _ A5.out).mono ?_
        rintro e w23 ⟨rfl, hb⟩
        refine ⟨_, rfl, ?_⟩
        have n0_ := Aside0.mk (blk_below (g := gb241) (o := .cells #[.int .i64 a2_0, .int .i64 a2_1] 52 (0, 0)) (by (with_reducible repeat (first | refine blk_drewN ?_ _ | refine blk_drew ?_ | refine blk_alloc ?_ _)); exact BK241.out) hb)
        have n1_ := Aside0.mk (blk_below (g := gb242) (o := .cells #[.int .i64 a3_0, .int .i64 a3_1] 52 (0, 0)) (by (with_reducible repeat (first | refine blk_drewN ?_ _ | refine blk_drew ?_ | refine blk_alloc ?_ _)); exact BK242.out) hb)
        have n2_ := Aside0.mk (below_step (by repeat (first | (with_reducible first | exact HB.out | apply below_alloc | apply pw_below_drewN | apply below_drew1 | refine below_set ?_ GE241.out | refine below_set ?_ GE242.out) | exact HB.out)) hb)
        clear BK241
        clear BK242
        clear HB
        have BK241 := n0_
        have BK242 := n1_
        have HB := n2_
        clear n0_ n1_ n2_
        (try clear hb)
        (try clear hb2)
        (try clear hk)
        (try clear hi)
        refine hK.out _ _ ⟨(blk_cell BK241.out 0).trans rfl, (blk_cell BK241.out 1).trans rfl, (blk_cell BK242.out 0).trans rfl, (blk_cell BK242.out 1).trans rfl⟩ (fun hHeld => ?_)
        clear hK K
        refine norm_ (a' := ?_) ?_ ?_
        rotate_left
        · show Act.put _ (some 14) _ = _
          simp only [Act.put, List.setIfInBounds_toArray, List.set_cons_zero, List.set_cons_succ, i64_w, i32_w]
          rfl
        refine one_ (i := 7) (N := some 18) #[true, true, true, true, true, true, true, true, false, false] rfl rfl (one_of HT_.out (by kernel_rfl)) (by decide) (fun K hK => ?_)
        refine goes_ Tryd.func73 (by kernel_rfl) rfl #[.int .i64 a0, .string a1, .agg #[.int .i64 a3_0, .int .i64 a3_1]] (by rfl) rfl rfl (by (try simp only [List.map_toArray, List.map_cons, List.map_nil]); first | done | rfl | (simp only [List.length_drop, List.length_take]; rfl)) ?_
        with_reducible refine (pomaderef04_colour.calls k a0 a1 a3_0 a3_1 t244 _ A6.out).mono ?_
        rintro e w24 ⟨rfl, hb⟩
        refine ⟨_, rfl, ?_⟩
        have n0_ := Aside0.mk (blk_below (g := gb241) (o := .cells #[.int .i64 a2_0, .int .i64 a2_1] 52 (0, 0)) (by (with_reducible repeat (first | refine blk_drewN ?_ _ | refine blk_drew ?_ | refine blk_alloc ?_ _)); exact BK241.out) hb)
        have n1_ := Aside0.mk (blk_below (g := gb242) (o := .cells #[.int .i64 a3_0, .int .i64 a3_1] 52 (0, 0)) (by (with_reducible repeat (first | refine blk_drewN ?_ _ | refine blk_drew ?_ | refine blk_alloc ?_ _)); exact BK242.out) hb)
        have n2_ := Aside0.mk (below_step (by repeat (first | (with_reducible first | exact HB.out | apply below_alloc | apply pw_below_drewN | apply below_drew1 | refine below_set ?_ GE241.out | refine below_set ?_ GE242.out) | exact HB.out)) hb)
        clear BK241
        clear BK242
        clear HB
        have BK241 := n0_
        have BK242 := n1_
        have HB := n2_
        clear n0_ n1_ n2_
        (try clear hb)
        (try clear hb2)
        (try clear hk)
        (try clear hi)
        refine hK.out _ _ ⟨(blk_cell BK241.out 0).trans rfl, (blk_cell BK241.out 1).trans rfl, (blk_cell BK242.out 0).trans rfl, (blk_cell BK242.out 1).trans rfl⟩ (fun hHeld => ?_)
        clear hK K
        refine norm_ (a' := ?_) ?_ ?_
        rotate_left
        · show Act.put _ (some 18) _ = _
          simp only [Act.put, List.setIfInBounds_toArray, List.set_cons_zero, List.set_cons_succ, i64_w, i32_w]
          rfl
        refine pure_ (i := 8) (N := some 9) (v := ?_) (a' := ?_) #[true, true, true, true, true, true, true, true, true, false] rfl rfl (any_of HT_.out (by kernel_rfl)) (fun _ _ _ h => h) (Or.inl ⟨by rfl, ?_⟩) ?_ ?_
        rotate_left
        · intro w'
          go_simp
          with_reducible rfl
        rotate_left
        · simp only [Act.put, List.setIfInBounds_toArray, List.set_cons_zero, List.set_cons_succ, i64_w, i32_w]
          rfl
        refine pure_ (i := 9) (N := some 10) (v := ?_) (a' := ?_) #[true, true, true, true, true, true, true, true, true, true] rfl rfl (any_of HT_.out (by kernel_rfl)) (fun _ _ _ h => h) (Or.inl ⟨by rfl, ?_⟩) ?_ ?_
        rotate_left
        · intro w'
          go_simp
          with_reducible rfl
        rotate_left
        · simp only [Act.put, List.setIfInBounds_toArray, List.set_cons_zero, List.set_cons_succ, i64_w, i32_w]
          rfl
        refine done_ (done_of HT_.out (by kernel_rfl)) ?_
        try go_wp2
        go_ret
        exact ⟨by first | rfl | (simp [errW_none, errW_some] <;> rfl) | (simp [*, errW_none, errW_some] <;> rfl), by repeat (first | (with_reducible first | exact HB.out | apply below_alloc | apply pw_below_drewN | apply below_drew1 | refine below_set ?_ GE241.out | refine below_set ?_ GE242.out) | exact HB.out)⟩
  · rw [if_neg c7] at H
    have c7b0 : (t243 == 48) = false := beq_eq_false_iff_ne.mpr c7
    have c7b1 : (t243 != 48) = true := bne_iff_ne.mpr c7
    by_cases c25 : t243 = 49
    · rw [if_pos c25] at H
      have c25b0 : (t243 == 49) = true := beq_iff_eq.mpr c25
      have c25b1 : (t243 != 49) = false := bne_eq_false_iff_eq.mpr c25
      clear c25
      obtain rfl := Option.some.inj H
      go_enter Tryd.func39, Tryd.ntmps39
      try go_wp2_with (first | ((with_reducible refine gate_dst (N := 6) rfl ?_); refine box_event ?hg (N := 6) ?hd (cs := #[.int .i64 a2_0, .int .i64 a2_1]) (t := 52) ?hr ?_; (case hd => rfl); (case hg => rfl); (case hr => first | (go_simp; done) | (go_simp; rfl)); intro gb241 hg w26 hbox hb; have n0_ := Aside0.mk (below_step (by repeat (first | (with_reducible first | exact HB.out | apply below_alloc | apply pw_below_drewN | apply below_drew1) | exact HB.out)) hb); have n1_ := Aside0.mk (hbox); have n2_ := Aside0.mk ((by rw [hg]; exact (below_size (by repeat (first | (with_reducible first | exact HB.out | apply below_alloc | apply pw_below_drewN | apply below_drew1) | exact HB.out))) : w.heap.size ≤ gb241)); have n3_ := Aside0.mk ((by rw [hg]; exact (below_size (by repeat (first | (with_reducible first | exact HB.out | apply below_alloc | apply pw_below_drewN | apply below_drew1) | exact HB.out))) : w.heap.size ≤ gb241)); clear HB; have HB := n0_; have BK241 := n1_; have GW241 := n2_; have GE241 := n3_; clear n0_ n1_ n2_ n3_; clear hb hbox hg) | ((with_reducible refine gate_dst (N := 7) rfl ?_); refine box_event ?hg (N := 7) ?hd (cs := #[.int .i64 a3_0, .int .i64 a3_1]) (t := 52) ?hr ?_; (case hd => rfl); (case hg => rfl); (case hr => first | (go_simp; done) | (go_simp; rfl)); intro gb242 hg w27 hbox hb; have n0_ := Aside0.mk (blk_below (g := gb241) (o := .cells #[.int .i64 a2_0, .int .i64 a2_1] 52 (0, 0)) (by (with_reducible repeat (first | refine blk_drewN ?_ _ | refine blk_drew ?_ | refine blk_alloc ?_ _)); exact BK241.out) hb); have n1_ := Aside0.mk (below_step (by repeat (first | (with_reducible first | exact HB.out | apply below_alloc | apply pw_below_drewN | apply below_drew1 | refine below_set ?_ GE241.out) | exact HB.out)) hb); have n2_ := Aside0.mk (hbox); have n3_ := Aside0.mk ((by rw [hg]; exact (below_size (by repeat (first | (with_reducible first | exact HB.out | apply below_alloc | apply pw_below_drewN | apply below_drew1 | refine below_set ?_ GE241.out) | exact HB.out))) : w.heap.size ≤ gb242)); have n4_ := Aside0.mk ((by rw [hg]; exact (below_size (by repeat (first | (with_reducible first | exact HB.out | apply below_alloc | apply pw_below_drewN | apply below_drew1 | refine below_set ?_ GE241.out) | exact HB.out))) : w.heap.size ≤ gb242)); have n5_ := Aside0.mk ((by rw [hg]; exact Nat.ne_of_lt (blk_lt (g := gb241) (o := .cells #[.int .i64 a2_0, .int .i64 a2_1] 52 (0, 0)) (by (with_reducible repeat (first | refine blk_drewN ?_ _ | refine blk_drew ?_ | refine blk_alloc ?_ _)); exact BK241.out)) : gb241 ≠ gb242)); have n6_ := Aside0.mk ((by rw [hg]; exact Nat.ne_of_gt (blk_lt (g := gb241) (o := .cells #[.int .i64 a2_0, .int .i64 a2_1] 52 (0, 0)) (by (with_reducible repeat (first | refine blk_drewN ?_ _ | refine blk_drew ?_ | refine blk_alloc ?_ _)); exact BK241.out)) : gb242 ≠ gb241)); clear BK241; clear HB; have BK241 := n0_; have HB := n1_; have BK242 := n2_; have GW242 := n3_; have GE242 := n4_; have NB241_242 := n5_; have NB242_241 := n6_; clear n0_ n1_ n2_ n3_ n4_ n5_ n6_; clear hb hbox hg))
      have n0_ := Aside0.mk (blk_drew BK241.out)
      have n1_ := Aside0.mk (blk_drew BK242.out)
      have n2_ := Aside0.mk (below_drew1 HB.out)
      clear BK241
      clear BK242
      clear HB
      have BK241 := n0_
      have BK242 := n1_
      have HB := n2_
      clear n0_ n1_ n2_
      refine start_ (n := 10) (S := fun w' => w'.cell? ⟨gb241, 0, none⟩ = some (.int .i64 a2_0) ∧ w'.cell? ⟨gb241, 1, none⟩ = some (.int .i64 a2_1) ∧ w'.cell? ⟨gb242, 0, none⟩ = some (.int .i64 a3_0) ∧ w'.cell? ⟨gb242, 1, none⟩ = some (.int .i64 a3_1)) (ds := []) #[false, false, false, false, false, false, false, false, false, false] (by kernel_rfl) rfl rfl ⟨(blk_cell BK241.out 0).trans rfl, (blk_cell BK241.out 1).trans rfl, (blk_cell BK242.out 0).trans rfl, (blk_cell BK242.out 1).trans rfl⟩ (fun hHeld => ?_); refine with_tabW pomaderef04_Door.tab1 pomaderef04_Door.bits1 (fun HT_ HW_ => ?_)
      generalize w27.drew = w28 at BK241 BK242 HB hHeld ⊢
      refine pure_ (i := 0) (N := some 11) (v := ?_) (a' := ?_) #[true, false, false, false, false, false, false, false, false, false] rfl rfl (any_of HT_.out (by kernel_rfl)) (fun _ _ _ h => h) (Or.inl ⟨by rfl, ?_⟩) ?_ ?_
      rotate_left
      · intro w'
        go_simp
        with_reducible rfl
      rotate_left
      · simp only [Act.put, List.setIfInBounds_toArray, List.set_cons_zero, List.set_cons_succ, i64_w, i32_w]
        rfl
      refine pure_ (i := 1) (N := some 12) (v := ?_) (a' := ?_) #[true, true, false, false, false, false, false, false, false, false] rfl rfl (any_of HT_.out (by kernel_rfl)) (fun _ _ _ h => h) (Or.inl ⟨by rfl, ?_⟩) ?_ ?_
      rotate_left
      · intro w'
        go_simp
        with_reducible rfl
      rotate_left
      · simp only [Act.put, List.setIfInBounds_toArray, List.set_cons_zero, List.set_cons_succ, i64_w, i32_w]
        rfl
      refine pure_ (i := 4) (N := some 15) (v := ?_) (a' := ?_) #[true, true, false, false, true, false, false, false, false, false] rfl rfl (any_of HT_.out (by kernel_rfl)) (fun _ _ _ h => h) (Or.inl ⟨by rfl, ?_⟩) ?_ ?_
      rotate_left
      · intro w'
        go_simp
        with_reducible rfl
      rotate_left
      · simp only [Act.put, List.setIfInBounds_toArray, List.set_cons_zero, List.set_cons_succ, i64_w, i32_w]
        rfl
      refine pure_ (i := 5) (N := some 16) (v := ?_) (a' := ?_) #[true, true, false, false, true, true, false, false, false, false] rfl rfl (any_of HT_.out (by kernel_rfl)) (fun _ _ _ h => h) (Or.inl ⟨by rfl, ?_⟩) ?_ ?_
      rotate_left
      · intro w'
        go_simp
        with_reducible rfl
      rotate_left
      · simp only [Act.put, List.setIfInBounds_toArray, List.set_cons_zero, List.set_cons_succ, i64_w, i32_w]
        rfl
      refine take_ (i := 2) (N := some 13) (v := ?_) (a' := ?_) #[true, true, true, false, true, true, false, false, false, false] rfl rfl (take_ofW HT_.out HW_.out (by kernel_rfl)) (fun _ _ _ h => h) (Or.inl ⟨by rfl, ?_⟩) hHeld ?_ ?_
      rotate_left
      · rintro w' ⟨s0, s1, s2, s3⟩
        go_simp
        with_reducible rfl
      rotate_left
      · simp only [Act.put, List.setIfInBounds_toArray, List.set_cons_zero, List.set_cons_succ, i64_w, i32_w]
        rfl
      refine take_ (i := 6) (N := some 17) (v := ?_) (a' := ?_) #[true, true, true, false, true, true, true, false, false, false] rfl rfl (take_ofW HT_.out HW_.out (by kernel_rfl)) (fun _ _ _ h => h) (Or.inl ⟨by rfl, ?_⟩) hHeld ?_ ?_
      rotate_left
      · rintro w' ⟨s0, s1, s2, s3⟩
        go_simp
        with_reducible rfl
      rotate_left
      · simp only [Act.put, List.setIfInBounds_toArray, List.set_cons_zero, List.set_cons_succ, i64_w, i32_w]
        rfl
      refine one_ (i := 3) (N := some 14) #[true, true, true, true, true, true, true, false, false, false] rfl rfl (one_of HT_.out (by kernel_rfl)) (by decide) (fun K hK => ?_)
      refine goes_ Tryd.func73 (by kernel_rfl) rfl #[.int .i64 a0, .string a1, .agg #[.int .i64 a2_0, .int .i64 a2_1]] (by rfl) rfl rfl (by (try simp only [List.map_toArray, List.map_cons, List.map_nil]); first | done | rfl | (simp only [List.length_drop, List.length_take]; rfl)) ?_
      with_reducible refine (pomaderef04_colour.calls k a0 a1 a2_0 a2_1 t243 _ A5.out).mono ?_
      rintro e w29 ⟨rfl, hb⟩
      refine ⟨_, rfl, ?_⟩
      have n0_ := Aside0.mk (blk_below (g := gb241) (o := .cells #[.int .i64 a2_0, .int .i64 a2_1] 52 (0, 0)) (by (with_reducible repeat (first | refine blk_drewN ?_ _ | refine blk_drew ?_ | refine blk_alloc ?_ _)); exact BK241.out) hb)
      have n1_ := Aside0.mk (blk_below (g := gb242) (o := .cells #[.int .i64 a3_0, .int .i64 a3_1] 52 (0, 0)) (by (with_reducible repeat (first | refine blk_drewN ?_ _ | refine blk_drew ?_ | refine blk_alloc ?_ _)); exact BK242.out) hb)
      have n2_ := Aside0.mk (below_step (by repeat (first | (with_reducible first | exact HB.out | apply below_alloc | apply pw_below_drewN | apply below_drew1 | refine below_set ?_ GE241.out | refine below_set ?_ GE242.out) | exact HB.out)) hb)
      clear BK241
      clear BK242
      clear HB
      have BK241 := n0_
      have BK242 := n1_
      have HB := n2_
      clear n0_ n1_ n2_
      (try clear hb)
      (try clear hb2)
      (try clear hk)
      (try clear hi)
      refine hK.out _ _ ⟨(blk_cell BK241.out 0).trans rfl, (blk_cell BK241.out 1).trans rfl, (blk_cell BK242.out 0).trans rfl, (blk_cell BK242.out 1).trans rfl⟩ (fun hHeld => ?_)
      clear hK K
      refine norm_ (a' := ?_) ?_ ?_
      rotate_left
      · show Act.put _ (some 14) _ = _
        simp only [Act.put, List.setIfInBounds_toArray, List.set_cons_zero, List.set_cons_succ, i64_w, i32_w]
        rfl
      refine one_ (i := 7) (N := some 18) #[true, true, true, true, true, true, true, true, false, false] rfl rfl (one_of HT_.out (by kernel_rfl)) (by decide) (fun K hK => ?_)
      refine goes_ Tryd.func73 (by kernel_rfl) rfl #[.int .i64 a0, .string a1, .agg #[.int .i64 a3_0, .int .i64 a3_1]] (by rfl) rfl rfl (by (try simp only [List.map_toArray, List.map_cons, List.map_nil]); first | done | rfl | (simp only [List.length_drop, List.length_take]; rfl)) ?_
      with_reducible refine (pomaderef04_colour.calls k a0 a1 a3_0 a3_1 t244 _ A6.out).mono ?_
      rintro e w30 ⟨rfl, hb⟩
      refine ⟨_, rfl, ?_⟩
      have n0_ := Aside0.mk (blk_below (g := gb241) (o := .cells #[.int .i64 a2_0, .int .i64 a2_1] 52 (0, 0)) (by (with_reducible repeat (first | refine blk_drewN ?_ _ | refine blk_drew ?_ | refine blk_alloc ?_ _)); exact BK241.out) hb)
      have n1_ := Aside0.mk (blk_below (g := gb242) (o := .cells #[.int .i64 a3_0, .int .i64 a3_1] 52 (0, 0)) (by (with_reducible repeat (first | refine blk_drewN ?_ _ | refine blk_drew ?_ | refine blk_alloc ?_ _)); exact BK242.out) hb)
      have n2_ := Aside0.mk (below_step (by repeat (first | (with_reducible first | exact HB.out | apply below_alloc | apply pw_below_drewN | apply below_drew1 | refine below_set ?_ GE241.out | refine below_set ?_ GE242.out) | exact HB.out)) hb)
      clear BK241
      clear BK242
      clear HB
      have BK241 := n0_
      have BK242 := n1_
      have HB := n2_
      clear n0_ n1_ n2_
      (try clear hb)
      (try clear hb2)
      (try clear hk)
      (try clear hi)
      refine hK.out _ _ ⟨(blk_cell BK241.out 0).trans rfl, (blk_cell BK241.out 1).trans rfl, (blk_cell BK242.out 0).trans rfl, (blk_cell BK242.out 1).trans rfl⟩ (fun hHeld => ?_)
      clear hK K
      refine norm_ (a' := ?_) ?_ ?_
      rotate_left
      · show Act.put _ (some 18) _ = _
        simp only [Act.put, List.setIfInBounds_toArray, List.set_cons_zero, List.set_cons_succ, i64_w, i32_w]
        rfl
      refine pure_ (i := 8) (N := some 9) (v := ?_) (a' := ?_) #[true, true, true, true, true, true, true, true, true, false] rfl rfl (any_of HT_.out (by kernel_rfl)) (fun _ _ _ h => h) (Or.inl ⟨by rfl, ?_⟩) ?_ ?_
      rotate_left
      · intro w'
        go_simp
        with_reducible rfl
      rotate_left
      · simp only [Act.put, List.setIfInBounds_toArray, List.set_cons_zero, List.set_cons_succ, i64_w, i32_w]
        rfl
      refine pure_ (i := 9) (N := some 10) (v := ?_) (a' := ?_) #[true, true, true, true, true, true, true, true, true, true] rfl rfl (any_of HT_.out (by kernel_rfl)) (fun _ _ _ h => h) (Or.inl ⟨by rfl, ?_⟩) ?_ ?_
      rotate_left
      · intro w'
        go_simp
        with_reducible rfl
      rotate_left
      · simp only [Act.put, List.setIfInBounds_toArray, List.set_cons_zero, List.set_cons_succ, i64_w, i32_w]
        rfl
      refine done_ (done_of HT_.out (by kernel_rfl)) ?_
      try go_wp2
      go_ret
      exact ⟨by first | rfl | (simp [errW_none, errW_some] <;> rfl) | (simp [*, errW_none, errW_some] <;> rfl), by repeat (first | (with_reducible first | exact HB.out | apply below_alloc | apply pw_below_drewN | apply below_drew1 | refine below_set ?_ GE241.out | refine below_set ?_ GE242.out) | exact HB.out)⟩
    · rw [if_neg c25] at H
      have c25b0 : (t243 == 49) = false := beq_eq_false_iff_ne.mpr c25
      have c25b1 : (t243 != 49) = true := bne_iff_ne.mpr c25
      obtain rfl := Option.some.inj H
      go_enter Tryd.func39, Tryd.ntmps39
      try go_wp2_with (first | ((with_reducible refine gate_dst (N := 6) rfl ?_); refine box_event ?hg (N := 6) ?hd (cs := #[.int .i64 a2_0, .int .i64 a2_1]) (t := 52) ?hr ?_; (case hd => rfl); (case hg => rfl); (case hr => first | (go_simp; done) | (go_simp; rfl)); intro gb241 hg w31 hbox hb; have n0_ := Aside0.mk (below_step (by repeat (first | (with_reducible first | exact HB.out | apply below_alloc | apply pw_below_drewN | apply below_drew1) | exact HB.out)) hb); have n1_ := Aside0.mk (hbox); have n2_ := Aside0.mk ((by rw [hg]; exact (below_size (by repeat (first | (with_reducible first | exact HB.out | apply below_alloc | apply pw_below_drewN | apply below_drew1) | exact HB.out))) : w.heap.size ≤ gb241)); have n3_ := Aside0.mk ((by rw [hg]; exact (below_size (by repeat (first | (with_reducible first | exact HB.out | apply below_alloc | apply pw_below_drewN | apply below_drew1) | exact HB.out))) : w.heap.size ≤ gb241)); clear HB; have HB := n0_; have BK241 := n1_; have GW241 := n2_; have GE241 := n3_; clear n0_ n1_ n2_ n3_; clear hb hbox hg) | ((with_reducible refine gate_dst (N := 7) rfl ?_); refine box_event ?hg (N := 7) ?hd (cs := #[.int .i64 a3_0, .int .i64 a3_1]) (t := 52) ?hr ?_; (case hd => rfl); (case hg => rfl); (case hr => first | (go_simp; done) | (go_simp; rfl)); intro gb242 hg w32 hbox hb; have n0_ := Aside0.mk (blk_below (g := gb241) (o := .cells #[.int .i64 a2_0, .int .i64 a2_1] 52 (0, 0)) (by (with_reducible repeat (first | refine blk_drewN ?_ _ | refine blk_drew ?_ | refine blk_alloc ?_ _)); exact BK241.out) hb); have n1_ := Aside0.mk (below_step (by repeat (first | (with_reducible first | exact HB.out | apply below_alloc | apply pw_below_drewN | apply below_drew1 | refine below_set ?_ GE241.out) | exact HB.out)) hb); have n2_ := Aside0.mk (hbox); have n3_ := Aside0.mk ((by rw [hg]; exact (below_size (by repeat (first | (with_reducible first | exact HB.out | apply below_alloc | apply pw_below_drewN | apply below_drew1 | refine below_set ?_ GE241.out) | exact HB.out))) : w.heap.size ≤ gb242)); have n4_ := Aside0.mk ((by rw [hg]; exact (below_size (by repeat (first | (with_reducible first | exact HB.out | apply below_alloc | apply pw_below_drewN | apply below_drew1 | refine below_set ?_ GE241.out) | exact HB.out))) : w.heap.size ≤ gb242)); have n5_ := Aside0.mk ((by rw [hg]; exact Nat.ne_of_lt (blk_lt (g := gb241) (o := .cells #[.int .i64 a2_0, .int .i64 a2_1] 52 (0, 0)) (by (with_reducible repeat (first | refine blk_drewN ?_ _ | refine blk_drew ?_ | refine blk_alloc ?_ _)); exact BK241.out)) : gb241 ≠ gb242)); have n6_ := Aside0.mk ((by rw [hg]; exact Nat.ne_of_gt (blk_lt (g := gb241) (o := .cells #[.int .i64 a2_0, .int .i64 a2_1] 52 (0, 0)) (by (with_reducible repeat (first | refine blk_drewN ?_ _ | refine blk_drew ?_ | refine blk_alloc ?_ _)); exact BK241.out)) : gb242 ≠ gb241)); clear BK241; clear HB; have BK241 := n0_; have HB := n1_; have BK242 := n2_; have GW242 := n3_; have GE242 := n4_; have NB241_242 := n5_; have NB242_241 := n6_; clear n0_ n1_ n2_ n3_ n4_ n5_ n6_; clear hb hbox hg))
      have n0_ := Aside0.mk (blk_drew BK241.out)
      have n1_ := Aside0.mk (blk_drew BK242.out)
      have n2_ := Aside0.mk (below_drew1 HB.out)
      clear BK241
      clear BK242
      clear HB
      have BK241 := n0_
      have BK242 := n1_
      have HB := n2_
      clear n0_ n1_ n2_
      refine start_ (n := 10) (S := fun w' => w'.cell? ⟨gb241, 0, none⟩ = some (.int .i64 a2_0) ∧ w'.cell? ⟨gb241, 1, none⟩ = some (.int .i64 a2_1) ∧ w'.cell? ⟨gb242, 0, none⟩ = some (.int .i64 a3_0) ∧ w'.cell? ⟨gb242, 1, none⟩ = some (.int .i64 a3_1)) (ds := []) #[false, false, false, false, false, false, false, false, false, false] (by kernel_rfl) rfl rfl ⟨(blk_cell BK241.out 0).trans rfl, (blk_cell BK241.out 1).trans rfl, (blk_cell BK242.out 0).trans rfl, (blk_cell BK242.out 1).trans rfl⟩ (fun hHeld => ?_); refine with_tabW pomaderef04_Door.tab1 pomaderef04_Door.bits1 (fun HT_ HW_ => ?_)
      generalize w32.drew = w33 at BK241 BK242 HB hHeld ⊢
      refine pure_ (i := 0) (N := some 11) (v := ?_) (a' := ?_) #[true, false, false, false, false, false, false, false, false, false] rfl rfl (any_of HT_.out (by kernel_rfl)) (fun _ _ _ h => h) (Or.inl ⟨by rfl, ?_⟩) ?_ ?_
      rotate_left
      · intro w'
        go_simp
        with_reducible rfl
      rotate_left
      · simp only [Act.put, List.setIfInBounds_toArray, List.set_cons_zero, List.set_cons_succ, i64_w, i32_w]
        rfl
      refine pure_ (i := 1) (N := some 12) (v := ?_) (a' := ?_) #[true, true, false, false, false, false, false, false, false, false] rfl rfl (any_of HT_.out (by kernel_rfl)) (fun _ _ _ h => h) (Or.inl ⟨by rfl, ?_⟩) ?_ ?_
      rotate_left
      · intro w'
        go_simp
        with_reducible rfl
      rotate_left
      · simp only [Act.put, List.setIfInBounds_toArray, List.set_cons_zero, List.set_cons_succ, i64_w, i32_w]
        rfl
      refine pure_ (i := 4) (N := some 15) (v := ?_) (a' := ?_) #[true, true, false, false, true, false, false, false, false, false] rfl rfl (any_of HT_.out (by kernel_rfl)) (fun _ _ _ h => h) (Or.inl ⟨by rfl, ?_⟩) ?_ ?_
      rotate_left
      · intro w'
        go_simp
        with_reducible rfl
      rotate_left
      · simp only [Act.put, List.setIfInBounds_toArray, List.set_cons_zero, List.set_cons_succ, i64_w, i32_w]
        rfl
      refine pure_ (i := 5) (N := some 16) (v := ?_) (a' := ?_) #[true, true, false, false, true, true, false, false, false, false] rfl rfl (any_of HT_.out (by kernel_rfl)) (fun _ _ _ h => h) (Or.inl ⟨by rfl, ?_⟩) ?_ ?_
      rotate_left
      · intro w'
        go_simp
        with_reducible rfl
      rotate_left
      · simp only [Act.put, List.setIfInBounds_toArray, List.set_cons_zero, List.set_cons_succ, i64_w, i32_w]
        rfl
      refine take_ (i := 2) (N := some 13) (v := ?_) (a' := ?_) #[true, true, true, false, true, true, false, false, false, false] rfl rfl (take_ofW HT_.out HW_.out (by kernel_rfl)) (fun _ _ _ h => h) (Or.inl ⟨by rfl, ?_⟩) hHeld ?_ ?_
      rotate_left
      · rintro w' ⟨s0, s1, s2, s3⟩
        go_simp
        with_reducible rfl
      rotate_left
      · simp only [Act.put, List.setIfInBounds_toArray, List.set_cons_zero, List.set_cons_succ, i64_w, i32_w]
        rfl
      refine take_ (i := 6) (N := some 17) (v := ?_) (a' := ?_) #[true, true, true, false, true, true, true, false, false, false] rfl rfl (take_ofW HT_.out HW_.out (by kernel_rfl)) (fun _ _ _ h => h) (Or.inl ⟨by rfl, ?_⟩) hHeld ?_ ?_
      rotate_left
      · rintro w' ⟨s0, s1, s2, s3⟩
        go_simp
        with_reducible rfl
      rotate_left
      · simp only [Act.put, List.setIfInBounds_toArray, List.set_cons_zero, List.set_cons_succ, i64_w, i32_w]
        rfl
      refine one_ (i := 3) (N := some 14) #[true, true, true, true, true, true, true, false, false, false] rfl rfl (one_of HT_.out (by kernel_rfl)) (by decide) (fun K hK => ?_)
      refine goes_ Tryd.func73 (by kernel_rfl) rfl #[.int .i64 a0, .string a1, .agg #[.int .i64 a2_0, .int .i64 a2_1]] (by rfl) rfl rfl (by (try simp only [List.map_toArray, List.map_cons, List.map_nil]); first | done | rfl | (simp only [List.length_drop, List.length_take]; rfl)) ?_
      with_reducible refine (pomaderef04_colour.calls k a0 a1 a2_0 a2_1 t243 _ A5.out).mono ?_
      rintro e w34 ⟨rfl, hb⟩
      refine ⟨_, rfl, ?_⟩
      have n0_ := Aside0.mk (blk_below (g := gb241) (o := .cells #[.int .i64 a2_0, .int .i64 a2_1] 52 (0, 0)) (by (with_reducible repeat (first | refine blk_drewN ?_ _ | refine blk_drew ?_ | refine blk_alloc ?_ _)); exact BK241.out) hb)
      have n1_ := Aside0.mk (blk_below (g := gb242) (o := .cells #[.int .i64 a3_0, .int .i64 a3_1] 52 (0, 0)) (by (with_reducible repeat (first | refine blk_drewN ?_ _ | refine blk_drew ?_ | refine blk_alloc ?_ _)); exact BK242.out) hb)
      have n2_ := Aside0.mk (below_step (by repeat (first | (with_reducible first | exact HB.out | apply below_alloc | apply pw_below_drewN | apply below_drew1 | refine below_set ?_ GE241.out | refine below_set ?_ GE242.out) | exact HB.out)) hb)
      clear BK241
      clear BK242
      clear HB
      have BK241 := n0_
      have BK242 := n1_
      have HB := n2_
      clear n0_ n1_ n2_
      (try clear hb)
      (try clear hb2)
      (try clear hk)
      (try clear hi)
      refine hK.out _ _ ⟨(blk_cell BK241.out 0).trans rfl, (blk_cell BK241.out 1).trans rfl, (blk_cell BK242.out 0).trans rfl, (blk_cell BK242.out 1).trans rfl⟩ (fun hHeld => ?_)
      clear hK K
      refine norm_ (a' := ?_) ?_ ?_
      rotate_left
      · show Act.put _ (some 14) _ = _
        simp only [Act.put, List.setIfInBounds_toArray, List.set_cons_zero, List.set_cons_succ, i64_w, i32_w]
        rfl
      refine one_ (i := 7) (N := some 18) #[true, true, true, true, true, true, true, true, false, false] rfl rfl (one_of HT_.out (by kernel_rfl)) (by decide) (fun K hK => ?_)
      refine goes_ Tryd.func73 (by kernel_rfl) rfl #[.int .i64 a0, .string a1, .agg #[.int .i64 a3_0, .int .i64 a3_1]] (by rfl) rfl rfl (by (try simp only [List.map_toArray, List.map_cons, List.map_nil]); first | done | rfl | (simp only [List.length_drop, List.length_take]; rfl)) ?_
      with_reducible refine (pomaderef04_colour.calls k a0 a1 a3_0 a3_1 t244 _ A6.out).mono ?_
      rintro e w35 ⟨rfl, hb⟩
      refine ⟨_, rfl, ?_⟩
      have n0_ := Aside0.mk (blk_below (g := gb241) (o := .cells #[.int .i64 a2_0, .int .i64 a2_1] 52 (0, 0)) (by (with_reducible repeat (first | refine blk_drewN ?_ _ | refine blk_drew ?_ | refine blk_alloc ?_ _)); exact BK241.out) hb)
      have n1_ := Aside0.mk (blk_below (g := gb242) (o := .cells #[.int .i64 a3_0, .int .i64 a3_1] 52 (0, 0)) (by (with_reducible repeat (first | refine blk_drewN ?_ _ | refine blk_drew ?_ | refine blk_alloc ?_ _)); exact BK242.out) hb)
      have n2_ := Aside0.mk (below_step (by repeat (first | (with_reducible first | exact HB.out | apply below_alloc | apply pw_below_drewN | apply below_drew1 | refine below_set ?_ GE241.out | refine below_set ?_ GE242.out) | exact HB.out)) hb)
      clear BK241
      clear BK242
      clear HB
      have BK241 := n0_
      have BK242 := n1_
      have HB := n2_
      clear n0_ n1_ n2_
      (try clear hb)
      (try clear hb2)
      (try clear hk)
      (try clear hi)
      refine hK.out _ _ ⟨(blk_cell BK241.out 0).trans rfl, (blk_cell BK241.out 1).trans rfl, (blk_cell BK242.out 0).trans rfl, (blk_cell BK242.out 1).trans rfl⟩ (fun hHeld => ?_)
      clear hK K
      refine norm_ (a' := ?_) ?_ ?_
      rotate_left
      · show Act.put _ (some 18) _ = _
        simp only [Act.put, List.setIfInBounds_toArray, List.set_cons_zero, List.set_cons_succ, i64_w, i32_w]
        rfl
      refine pure_ (i := 8) (N := some 9) (v := ?_) (a' := ?_) #[true, true, true, true, true, true, true, true, true, false] rfl rfl (any_of HT_.out (by kernel_rfl)) (fun _ _ _ h => h) (Or.inl ⟨by rfl, ?_⟩) ?_ ?_
      rotate_left
      · intro w'
        go_simp
        with_reducible rfl
      rotate_left
      · simp only [Act.put, List.setIfInBounds_toArray, List.set_cons_zero, List.set_cons_succ, i64_w, i32_w]
        rfl
      refine pure_ (i := 9) (N := some 10) (v := ?_) (a' := ?_) #[true, true, true, true, true, true, true, true, true, true] rfl rfl (any_of HT_.out (by kernel_rfl)) (fun _ _ _ h => h) (Or.inl ⟨by rfl, ?_⟩) ?_ ?_
      rotate_left
      · intro w'
        go_simp
        with_reducible rfl
      rotate_left
      · simp only [Act.put, List.setIfInBounds_toArray, List.set_cons_zero, List.set_cons_succ, i64_w, i32_w]
        rfl
      refine done_ (done_of HT_.out (by kernel_rfl)) ?_
      try go_wp2
      go_ret
      exact ⟨by first | rfl | (simp [errW_none, errW_some] <;> rfl) | (simp [*, errW_none, errW_some] <;> rfl), by repeat (first | (with_reducible first | exact HB.out | apply below_alloc | apply pw_below_drewN | apply below_drew1 | refine below_set ?_ GE241.out | refine below_set ?_ GE242.out) | exact HB.out)⟩
end Go.Proofs.YtlmgkmmdaecpdaaDoor.Im

namespace Go.Proofs.YtlmgkmmdaecpdaaDoor.Mi
set_option linter.unusedVariables false
def it {X : Type} (nx : X → Option X) : Nat → X → Option X
  | 0, x => some x
  | k + 1, x => (it nx k x).bind nx
structure Doors {X : Type} (nx : X → Option X) (rev : X → X) (good : X → Prop) : Prop where
  inj : ∀ x y z, nx x = some z → nx y = some z → x = y
  on : ∀ x y, nx x = some y → good x
  back : ∀ x y, nx x = some y → good y → nx (rev y) = some (rev x)
  rev2 : ∀ x, good x → rev (rev x) = x
  revn : ∀ x, good x → rev x ≠ x
  far : ∀ x y, nx x = some y → y ≠ rev x
section
variable {X : Type} {nx : X → Option X} {rev : X → X} {good : X → Prop}
def Start (nx : X → Option X) (x : X) : Prop := ∀ y, nx y ≠ some x
theorem it_pred {k : Nat} {x a : X} (h : it nx (k + 1) x = some a) : ∃ b, it nx k x = some b ∧ nx b = some a := by
  show ∃ b, _
  have h : (it nx k x).bind nx = some a := h
  cases hb : it nx k x with
  | none => rw [hb] at h; cases h
  | some b => rw [hb] at h; exact ⟨b, rfl, h⟩
theorem it_le {x a : X} : ∀ {k : Nat} (j : Nat), it nx k x = some a → j ≤ k → ∃ b, it nx j x = some b
  | 0, j, h, hj => ⟨a, by rw [show j = 0 by omega]; exact h⟩
  | k + 1, j, h, hj => by
    rcases Nat.lt_or_ge j (k + 1) with h1 | h1
    · obtain ⟨b, hb, _⟩ := it_pred h
      exact it_le (a := b) j hb (by omega)
    · exact ⟨a, by rw [show j = k + 1 by omega]; exact h⟩
theorem Doors.once (D : Doors nx rev good) {x a : X} (hs : Start nx x) : ∀ {s t : Nat}, it nx s x = some a → it nx t x = some a → s = t
  | 0, 0, _, _ => rfl
  | 0, t + 1, h, k => by
    have h : some x = some a := h
    cases h
    obtain ⟨b, _, hb⟩ := it_pred k
    exact absurd hb (hs b)
  | s + 1, 0, h, k => by
    have k : some x = some a := k
    cases k
    obtain ⟨b, _, hb⟩ := it_pred h
    exact absurd hb (hs b)
  | s + 1, t + 1, h, k => by
    obtain ⟨b, h1, h2⟩ := it_pred h
    obtain ⟨d, k1, k2⟩ := it_pred k
    have e := D.inj b d a h2 k2
    subst e
    rw [Doors.once D hs h1 k1]
theorem Doors.never (D : Doors nx rev good) {x : X} : ∀ (d s : Nat) (a : X), it nx s x = some a → good a → it nx (s + d) x = some (rev a) → False
  | 0, s, a, h, hg, k => by
    rw [Nat.add_zero, h] at k
    exact D.revn a hg (Option.some.inj k).symm
  | 1, s, a, h, hg, k => by
    obtain ⟨b, k1, k2⟩ := it_pred k
    have : b = a := Option.some.inj (k1.symm.trans h)
    subst this
    exact D.far b (rev b) k2 rfl
  | d + 2, s, a, h, hg, k => by
    obtain ⟨b, k1, k2⟩ := it_pred (k := s + (d + 1)) k
    obtain ⟨e, he⟩ := it_le (s + 1) k1 (by omega)
    obtain ⟨a', e1, e2⟩ := it_pred he
    have : a' = a := Option.some.inj (e1.symm.trans h)
    subst this
    have hge : good e := by
      cases d with
      | zero =>
        have : e = b := Option.some.inj (he.symm.trans k1)
        rw [this]
        exact D.on b _ k2
      | succ d =>
        obtain ⟨f, hf⟩ := it_le (s + 1 + 1) k1 (by omega)
        obtain ⟨e', f1, f2⟩ := it_pred hf
        have : e' = e := Option.some.inj (f1.symm.trans he)
        rw [← this]
        exact D.on e' f f2
    have h3 := D.back a' e e2 hge
    have h4 := D.inj b (rev e) _ k2 h3
    subst h4
    refine Doors.never D d (s + 1) e he hge ?_
    rw [show s + 1 + d = s + (d + 1) by omega]
    exact k1
theorem Doors.cells (D : Doors nx rev good) {x a b : X} (hs : Start nx x) {s t : Nat} (h : it nx s x = some a) (k : it nx t x = some b) (e : a = b ∨ (good a ∧ good b ∧ b = rev a)) : s = t := by
  rcases e with rfl | ⟨ga, gb, rfl⟩
  · exact D.once hs h k
  · rcases Nat.le_total s t with hl | hl
    · exact absurd (by rw [show s + (t - s) = t by omega]; exact k) (fun q => D.never (t - s) s a h ga q)
    · have e2 := D.rev2 a ga
      exact absurd (show it nx (t + (s - t)) x = some (rev (rev a)) by rw [show t + (s - t) = s by omega, e2]; exact h) (fun q => D.never (s - t) t (rev a) k gb q)
theorem Doors.apart (D : Doors nx rev good) {x y e : X} (hx : Start nx x) (hy : Start nx y) (hne : x ≠ y) {T : Nat} (hT : it nx T x = some e) (he : nx e = none) (hge : good e) (hre : Start nx (rev e)) (hye : y ≠ rev e) :
    ∀ {s t : Nat} {a b : X}, it nx s x = some a → it nx t y = some b → ¬ (a = b ∨ (good a ∧ good b ∧ b = rev a)) := by
  have end_ : ∀ {s : Nat} {a : X}, it nx s x = some a → s ≤ T := fun {s a} h => by
    rcases Nat.lt_or_ge T s with h1 | h1
    · obtain ⟨f, hf⟩ := it_le (T + 1) h (by omega)
      obtain ⟨e', f1, f2⟩ := it_pred hf
      have : e' = e := Option.some.inj (f1.symm.trans hT)
      rw [this, he] at f2
      cases f2
    · exact h1
  have goods : ∀ {s : Nat} {a : X}, it nx s x = some a → good a := fun {s a} h => by
    have hs := end_ h
    rcases Nat.lt_or_ge s T with h1 | h1
    · obtain ⟨f, hf⟩ := it_le (s + 1) hT (by omega)
      obtain ⟨a', f1, f2⟩ := it_pred hf
      have : a' = a := Option.some.inj (f1.symm.trans h)
      rw [← this]
      exact D.on a' f f2
    · have : s = T := by omega
      subst this
      have : a = e := Option.some.inj (h.symm.trans hT)
      rw [this]
      exact hge
  have same : ∀ (s t : Nat) (a : X), it nx s x = some a → it nx t y = some a → False := fun s => by
    induction s with
    | zero =>
      intro t a h k
      have h : some x = some a := h
      cases h
      cases t with
      | zero => exact hne (Option.some.inj k).symm
      | succ t => obtain ⟨b, _, hb⟩ := it_pred k; exact hx b hb
    | succ s ih =>
      intro t a h k
      obtain ⟨b, h1, h2⟩ := it_pred h
      cases t with
      | zero =>
        have k : some y = some a := k
        cases k
        exact hy b h2
      | succ t =>
        obtain ⟨d, k1, k2⟩ := it_pred k
        have := D.inj b d a h2 k2
        subst this
        exact ih t b h1 k1
  have turn : ∀ (t s : Nat) (a : X), it nx s x = some a → it nx t y = some (rev a) → False := fun t => by
    induction t with
    | zero =>
      intro s a h k
      have k : some y = some (rev a) := k
      have k := Option.some.inj k
      rcases Nat.lt_or_ge s T with h1 | h1
      · obtain ⟨f, hf⟩ := it_le (s + 1) hT (by omega)
        obtain ⟨a', f1, f2⟩ := it_pred hf
        have : a' = a := Option.some.inj (f1.symm.trans h)
        subst this
        have := D.back a' f f2 (goods hf)
        rw [← k] at this
        exact hy _ this
      · have hs := end_ h
        have : s = T := by omega
        subst this
        have : a = e := Option.some.inj (h.symm.trans hT)
        rw [this] at k
        exact hye k
    | succ t ih =>
      intro s a h k
      obtain ⟨d, k1, k2⟩ := it_pred k
      rcases Nat.lt_or_ge s T with h1 | h1
      · obtain ⟨f, hf⟩ := it_le (s + 1) hT (by omega)
        obtain ⟨a', f1, f2⟩ := it_pred hf
        have : a' = a := Option.some.inj (f1.symm.trans h)
        subst this
        have h3 := D.back a' f f2 (goods hf)
        have := D.inj d (rev f) _ k2 h3
        subst this
        exact ih (s + 1) f hf k1
      · have hs := end_ h
        have : s = T := by omega
        subst this
        have : a = e := Option.some.inj (h.symm.trans hT)
        rw [this] at k2
        exact hre d k2
  intro s t a b h k ec
  rcases ec with rfl | ⟨_, _, rfl⟩
  · exact same s t a h k
  · exact turn t s a h k
end
end Go.Proofs.YtlmgkmmdaecpdaaDoor.Mi

namespace Go.Proofs.YtlmgkmmdaecpdaaDoor.Mi
set_option linter.unusedVariables false
abbrev Tri3 : Type := Nat × Nat × Nat
def edP (e : Tri3) : Nat × Nat := if e.1 = 2 then (e.2.1, e.2.2 + 1) else (e.2.1, e.2.2)
def edQ (e : Tri3) : Nat × Nat := if e.1 = 1 then (e.2.1, e.2.2 + 1) else (e.2.1 + 1, e.2.2)
def edOk (n : Nat) (e : Tri3) : Prop := e.1 ≤ 2 ∧ e.2.1 + e.2.2 + 1 ≤ n
def ceOk (n : Nat) (x : Tri3) : Prop := x.1 ≤ 1 ∧ x.2.1 + x.2.2 + x.1 + 1 ≤ n
def edsC (x : Tri3) : List Tri3 := if x.1 = 0 then [(0, x.2.1, x.2.2), (1, x.2.1, x.2.2), (2, x.2.1, x.2.2)] else [(2, x.2.1, x.2.2), (1, x.2.1 + 1, x.2.2), (0, x.2.1, x.2.2 + 1)]
def lowC (n : Nat) (e : Tri3) : Option Tri3 :=
  if e.1 = 0 then (if e.2.2 = 0 then none else some (1, e.2.1, e.2.2 - 1)) else if e.1 = 1 then (if e.2.1 = 0 then none else some (1, e.2.1 - 1, e.2.2)) else (if e.2.1 + e.2.2 + 2 ≤ n then some (1, e.2.1, e.2.2) else none)
def uppC (e : Tri3) : Tri3 := (0, e.2.1, e.2.2)
def behC (n : Nat) (x e : Tri3) : Option Tri3 := if x = uppC e then lowC n e else some (uppC e)
theorem edsC_ok {n : Nat} {x e : Tri3} (hx : ceOk n x) (he : e ∈ edsC x) : edOk n e := by
  obtain ⟨k, i, j⟩ := x
  unfold edsC at he
  unfold ceOk at hx
  unfold edOk
  simp only at hx he
  split at he <;> simp only [List.mem_cons, List.not_mem_nil, or_false] at he <;> rcases he with rfl | rfl | rfl <;> simp only <;> omega
theorem edsC_nodup (x : Tri3) : (edsC x).Nodup := by
  obtain ⟨k, i, j⟩ := x
  unfold edsC
  split <;> simp
theorem uppC_ok {n : Nat} {e : Tri3} (he : edOk n e) : ceOk n (uppC e) ∧ e ∈ edsC (uppC e) := by
  obtain ⟨t, a, b⟩ := e
  unfold edOk at he
  simp only at he
  refine ⟨⟨Nat.zero_le _, by simp only [uppC]; omega⟩, ?_⟩
  unfold edsC uppC
  simp only [if_true]
  rcases (show t = 0 ∨ t = 1 ∨ t = 2 by omega) with rfl | rfl | rfl <;> simp
theorem lowC_ok {n : Nat} {e y : Tri3} (he : edOk n e) (h : lowC n e = some y) : ceOk n y ∧ e ∈ edsC y ∧ y.1 = 1 := by
  obtain ⟨t, a, b⟩ := e
  unfold edOk at he
  unfold lowC at h
  simp only at he h
  split at h
  · split at h
    · cases h
    · have := Option.some.inj h
      subst this
      subst_vars
      refine ⟨⟨Nat.le_refl _, by simp only; omega⟩, ?_, rfl⟩
      unfold edsC
      rw [if_neg (by simp)]
      have hb : b - 1 + 1 = b := by omega
      simp [hb]
  · split at h
    · split at h
      · cases h
      · have := Option.some.inj h
        subst this
        subst_vars
        refine ⟨⟨Nat.le_refl _, by simp only; omega⟩, ?_, rfl⟩
        unfold edsC
        rw [if_neg (by simp)]
        have hb : a - 1 + 1 = a := by omega
        simp [hb]
    · split at h
      · have := Option.some.inj h
        subst this
        obtain rfl : t = 2 := by omega
        refine ⟨⟨Nat.le_refl _, by simp only; omega⟩, ?_, rfl⟩
        unfold edsC
        rw [if_neg (by simp)]
        simp
      · cases h
theorem eds_cell {n : Nat} {x e : Tri3} (hx : ceOk n x) (he : e ∈ edsC x) : x = uppC e ∨ lowC n e = some x := by
  obtain ⟨k, i, j⟩ := x
  obtain ⟨t, a, b⟩ := e
  unfold ceOk at hx
  unfold edsC at he
  simp only at hx he
  split at he
  · subst_vars
    left
    simp only [List.mem_cons, List.not_mem_nil, or_false, Prod.mk.injEq] at he
    unfold uppC
    rcases he with ⟨rfl, rfl, rfl⟩ | ⟨rfl, rfl, rfl⟩ | ⟨rfl, rfl, rfl⟩ <;> rfl
  · obtain rfl : k = 1 := by omega
    right
    simp only [List.mem_cons, List.not_mem_nil, or_false, Prod.mk.injEq] at he
    unfold lowC
    rcases he with ⟨rfl, rfl, rfl⟩ | ⟨rfl, rfl, rfl⟩ | ⟨rfl, rfl, rfl⟩
    · simp only
      rw [if_neg (by omega), if_neg (by omega), if_pos (by omega)]
    · simp only
      rw [if_neg (by omega), if_pos trivial, if_neg (by omega)]
      simp
    · simp only
      rw [if_pos trivial, if_neg (by omega)]
      simp
theorem low_ne_upp {n : Nat} {e y : Tri3} (h : lowC n e = some y) : y ≠ uppC e := by
  intro h2
  have h1 : y.1 = 1 := by
    unfold lowC at h
    repeat' split at h
    all_goals first
      | cases h; done
      | (have := Option.some.inj h; subst this; rfl)
  rw [h2] at h1
  exact absurd h1 (by simp [uppC])
theorem behC_ok {n : Nat} {x e y : Tri3} (hx : ceOk n x) (he : e ∈ edsC x) (h : behC n x e = some y) : ceOk n y ∧ e ∈ edsC y ∧ y ≠ x ∧ behC n y e = some x := by
  have hok := edsC_ok hx he
  unfold behC at h
  split at h
  · rename_i hxu
    obtain ⟨h1, h2, _⟩ := lowC_ok hok h
    have h3 := low_ne_upp h
    refine ⟨h1, h2, by rw [hxu]; exact h3, ?_⟩
    unfold behC
    rw [if_neg h3, hxu]
  · rename_i hxu
    have := Option.some.inj h
    subst this
    obtain ⟨h1, h2⟩ := uppC_ok hok
    refine ⟨h1, h2, fun h3 => hxu h3.symm, ?_⟩
    unfold behC
    rw [if_pos rfl]
    rcases eds_cell hx he with h4 | h4
    · exact absurd h4 hxu
    · exact h4
section
variable (c : Nat → Nat → Nat)
def doorC (e : Tri3) : Bool := isD (c (edP e).1 (edP e).2) (c (edQ e).1 (edQ e).2)
def fulC3 (x : Tri3) : Bool := if x.1 = 0 then fullC (c x.2.1 x.2.2) (c (x.2.1 + 1) x.2.2) (c x.2.1 (x.2.2 + 1)) else fullC (c (x.2.1 + 1) x.2.2) (c (x.2.1 + 1) (x.2.2 + 1)) (c x.2.1 (x.2.2 + 1))
def othC (x d : Tri3) : Option Tri3 := (edsC x).find? fun o => decide (o ≠ d) && doorC c o
theorem three_doors : ∀ u v w : Fin 3, (isD u v = true → (fullC u v w = false ↔ (isD u w != isD v w) = true)) ∧ (isD u w = true → (fullC u v w = false ↔ (isD u v != isD v w) = true)) ∧ (isD v w = true → (fullC u v w = false ↔ (isD u v != isD u w) = true)) ∧ (fullC u v w = true → (isD u v || isD u w || isD v w) = true ∧ (isD u v && isD u w) = false ∧ (isD u v && isD v w) = false ∧ (isD u w && isD v w) = false) := by decide
theorem isD_symm (x y : Nat) : isD x y = isD y x := by
  unfold isD
  rw [Bool.eq_iff_iff]
  simp only [Bool.or_eq_true, Bool.and_eq_true, beq_iff_eq]
  omega
theorem fullC_rot (x y z : Nat) : fullC x y z = fullC x z y := by
  unfold fullC
  rw [Bool.eq_iff_iff]
  simp only [Bool.or_eq_true, Bool.and_eq_true, beq_iff_eq]
  omega
theorem eds_three {n : Nat} (h3 : Col3 c n) {x : Tri3} (hx : ceOk n x) : ∃ (u v w : Fin 3) (e f g : Tri3), edsC x = [e, f, g] ∧ e ≠ f ∧ e ≠ g ∧ f ≠ g ∧ doorC c e = isD u v ∧ doorC c f = isD u w ∧ doorC c g = isD v w ∧ fulC3 c x = fullC u v w := by
  obtain ⟨k, i, j⟩ := x
  unfold ceOk at hx
  simp only at hx
  rcases (show k = 0 ∨ k = 1 by omega) with rfl | rfl
  · refine ⟨⟨c i j, h3 i j (by omega)⟩, ⟨c (i + 1) j, h3 _ _ (by omega)⟩, ⟨c i (j + 1), h3 _ _ (by omega)⟩, (0, i, j), (1, i, j), (2, i, j), rfl, by simp, by simp, by simp, rfl, rfl, ?_, rfl⟩
    show isD (c i (j + 1)) (c (i + 1) j) = _
    exact isD_symm _ _
  · refine ⟨⟨c (i + 1) j, h3 _ _ (by omega)⟩, ⟨c i (j + 1), h3 _ _ (by omega)⟩, ⟨c (i + 1) (j + 1), h3 _ _ (by omega)⟩, (2, i, j), (1, i + 1, j), (0, i, j + 1), rfl, by simp, by simp, by simp, ?_, rfl, rfl, ?_⟩
    · show isD (c i (j + 1)) (c (i + 1) j) = _
      exact isD_symm _ _
    · show fullC (c (i + 1) j) (c (i + 1) (j + 1)) (c i (j + 1)) = _
      exact fullC_rot _ _ _
theorem oth_some {n : Nat} (h3 : Col3 c n) {x d : Tri3} (hx : ceOk n x) (hd : d ∈ edsC x) (hdo : doorC c d = true) (hf : fulC3 c x = false) : ∃ o, othC c x d = some o ∧ o ∈ edsC x ∧ doorC c o = true ∧ o ≠ d ∧ ∀ p, p ∈ edsC x → doorC c p = true → p ≠ d → p = o := by
  obtain ⟨u, v, w, e, f, g, h, n1, n2, n3, d1, d2, d3, df⟩ := eds_three c h3 hx
  obtain ⟨t1, t2, t3, _⟩ := three_doors u v w
  unfold othC
  rw [h] at hd ⊢
  rw [df] at hf
  have key : ∀ p, p ∈ [e, f, g] ↔ p = e ∨ p = f ∨ p = g := fun p => by simp
  rw [key] at hd
  have fin : ∀ o, (o = e ∨ o = f ∨ o = g) → doorC c o = true → o ≠ d → (∀ p, (p = e ∨ p = f ∨ p = g) → doorC c p = true → p ≠ d → p = o) → ∃ o, [e, f, g].find? (fun o => decide (o ≠ d) && doorC c o) = some o ∧ o ∈ [e, f, g] ∧ doorC c o = true ∧ o ≠ d ∧ ∀ p, p ∈ [e, f, g] → doorC c p = true → p ≠ d → p = o := by
    intro o h1 h2 h3 h4
    cases hfi : [e, f, g].find? (fun o => decide (o ≠ d) && doorC c o) with
    | none =>
      have := List.find?_eq_none.1 hfi o ((key o).2 h1)
      simp [h2, h3] at this
    | some q =>
      have hq := List.find?_some hfi
      have hm := List.mem_of_find?_eq_some hfi
      simp only [Bool.and_eq_true, decide_eq_true_eq] at hq
      have : q = o := h4 q ((key q).1 hm) hq.2 hq.1
      subst this
      exact ⟨q, rfl, hm, h2, h3, fun p hp => h4 p ((key p).1 hp)⟩
  rcases hd with rfl | rfl | rfl
  · rw [d1] at hdo
    have t := (t1 hdo).1 hf
    rw [← d2, ← d3] at t
    cases ha : doorC c f <;> cases hb : doorC c g <;> simp [ha, hb] at t
    · exact fin g (.inr (.inr rfl)) hb n2.symm (by rintro p (rfl | rfl | rfl) k1 k2; exact absurd rfl k2; rw [ha] at k1; cases k1; rfl)
    · exact fin f (.inr (.inl rfl)) ha n1.symm (by rintro p (rfl | rfl | rfl) k1 k2; exact absurd rfl k2; rfl; rw [hb] at k1; cases k1)
  · rw [d2] at hdo
    have t := (t2 hdo).1 hf
    rw [← d1, ← d3] at t
    cases ha : doorC c e <;> cases hb : doorC c g <;> simp [ha, hb] at t
    · exact fin g (.inr (.inr rfl)) hb n3.symm (by rintro p (rfl | rfl | rfl) k1 k2; rw [ha] at k1; cases k1; exact absurd rfl k2; rfl)
    · exact fin e (.inl rfl) ha n1 (by rintro p (rfl | rfl | rfl) k1 k2; rfl; exact absurd rfl k2; rw [hb] at k1; cases k1)
  · rw [d3] at hdo
    have t := (t3 hdo).1 hf
    rw [← d1, ← d2] at t
    cases ha : doorC c e <;> cases hb : doorC c f <;> simp [ha, hb] at t
    · exact fin f (.inr (.inl rfl)) hb n3 (by rintro p (rfl | rfl | rfl) k1 k2; rw [ha] at k1; cases k1; rfl; exact absurd rfl k2)
    · exact fin e (.inl rfl) ha n2 (by rintro p (rfl | rfl | rfl) k1 k2; rfl; rw [hb] at k1; cases k1; exact absurd rfl k2)
theorem oth_full {n : Nat} (h3 : Col3 c n) {x d o : Tri3} (hx : ceOk n x) (hd : d ∈ edsC x) (hdo : doorC c d = true) (hf : fulC3 c x = true) (ho : o ∈ edsC x) (hoo : doorC c o = true) : o = d := by
  obtain ⟨u, v, w, e, f, g, h, n1, n2, n3, d1, d2, d3, df⟩ := eds_three c h3 hx
  obtain ⟨_, _, _, t⟩ := three_doors u v w
  rw [df] at hf
  obtain ⟨_, t1, t2, t3⟩ := t hf
  rw [← d1, ← d2] at t1
  rw [← d1, ← d3] at t2
  rw [← d2, ← d3] at t3
  rw [h] at hd ho
  simp only [List.mem_cons, List.not_mem_nil, or_false] at hd ho
  rcases hd with rfl | rfl | rfl <;> rcases ho with rfl | rfl | rfl <;> first | rfl | (exfalso; simp [hdo, hoo] at t1; done) | (exfalso; simp [hdo, hoo] at t2; done) | (exfalso; simp [hdo, hoo] at t3; done)
def goodS (n : Nat) (s : Tri3 × Tri3) : Prop := ceOk n s.1 ∧ s.2 ∈ edsC s.1 ∧ doorC c s.2 = true ∧ fulC3 c s.1 = false
def okS (n : Nat) (s : Tri3 × Tri3) : Prop := ceOk n s.1 ∧ s.2 ∈ edsC s.1 ∧ doorC c s.2 = true
instance (n : Nat) (e : Tri3) : Decidable (ceOk n e) := inferInstanceAs (Decidable (_ ∧ _))
instance (n : Nat) (s : Tri3 × Tri3) : Decidable (goodS c n s) := inferInstanceAs (Decidable (_ ∧ _ ∧ _ ∧ _))
def nxS (n : Nat) (s : Tri3 × Tri3) : Option (Tri3 × Tri3) := if goodS c n s then (othC c s.1 s.2).bind fun o => (behC n s.1 o).map fun y => (y, o) else none
def revS (s : Tri3 × Tri3) : Tri3 × Tri3 := (s.1, (othC c s.1 s.2).getD s.2)
theorem nxS_some {n : Nat} (h3 : Col3 c n) {s z : Tri3 × Tri3} (h : nxS c n s = some z) : goodS c n s ∧ othC c s.1 s.2 = some z.2 ∧ behC n s.1 z.2 = some z.1 ∧ z.2 ∈ edsC s.1 ∧ okS c n z := by
  unfold nxS at h
  split at h
  · rename_i hg
    obtain ⟨o, h1, h2, h3', h4, _⟩ := oth_some c h3 hg.1 hg.2.1 hg.2.2.1 hg.2.2.2
    rw [h1, Option.bind_some] at h
    cases hb : behC n s.1 o with
    | none => rw [hb] at h; cases h
    | some y =>
      rw [hb, Option.map_some] at h
      have := Option.some.inj h
      subst this
      obtain ⟨k1, k2, _⟩ := behC_ok hg.1 h2 hb
      exact ⟨hg, h1, hb, h2, k1, k2, h3'⟩
  · cases h
theorem nxS_of {n : Nat} {s : Tri3 × Tri3} {o y : Tri3} (hg : goodS c n s) (h1 : othC c s.1 s.2 = some o) (h2 : behC n s.1 o = some y) : nxS c n s = some (y, o) := by
  unfold nxS
  rw [if_pos hg, h1, Option.bind_some, h2]
  rfl
theorem doorsS {n : Nat} (h3 : Col3 c n) : Doors (nxS c n) (revS c) (goodS c n) where
  on x y h := (nxS_some c h3 h).1
  far x y h := by
    obtain ⟨g, _, hb, hm, _⟩ := nxS_some c h3 h
    obtain ⟨_, _, k, _⟩ := behC_ok g.1 hm hb
    intro he
    rw [he] at k
    exact k rfl
  rev2 x hg := by
    obtain ⟨o, h1, h2, h4, h5, h6⟩ := oth_some c h3 hg.1 hg.2.1 hg.2.2.1 hg.2.2.2
    obtain ⟨p, k1, k2, k3, k4, k5⟩ := oth_some c h3 hg.1 h2 h4 hg.2.2.2
    have hp : p = x.2 := (k5 x.2 hg.2.1 hg.2.2.1 (fun h => h5 h.symm)).symm
    unfold revS
    rw [h1, Option.getD_some, k1, Option.getD_some, hp]
  revn x hg := by
    obtain ⟨o, h1, h2, h4, h5, h6⟩ := oth_some c h3 hg.1 hg.2.1 hg.2.2.1 hg.2.2.2
    unfold revS
    rw [h1, Option.getD_some]
    intro h
    exact h5 (show o = x.2 from congrArg (fun s : Tri3 × Tri3 => s.2) h)
  inj x y z hx hy := by
    obtain ⟨g1, o1, b1, m1, _⟩ := nxS_some c h3 hx
    obtain ⟨g2, o2, b2, m2, _⟩ := nxS_some c h3 hy
    obtain ⟨_, _, _, q1⟩ := behC_ok g1.1 m1 b1
    obtain ⟨_, _, _, q2⟩ := behC_ok g2.1 m2 b2
    rw [q1] at q2
    have hc := Option.some.inj q2
    obtain ⟨o, h1, h2, h4, h5, h6⟩ := oth_some c h3 g1.1 g1.2.1 g1.2.2.1 g1.2.2.2
    obtain ⟨p, k1, k2, k4, k5, k6⟩ := oth_some c h3 g2.1 g2.2.1 g2.2.2.1 g2.2.2.2
    rw [o1] at h1
    rw [o2] at k1
    have e1 := Option.some.inj h1
    have e2 := Option.some.inj k1
    subst e1
    have hp : p = z.2 := e2.symm
    subst hp
    refine Prod.ext hc ?_
    have m1' := g1.2.1
    have hd1 : doorC c x.2 = true := g1.2.2.1
    -- the other door than z.2 of the one cell
    obtain ⟨r, r1, r2, r3, r4, r5⟩ := oth_some c h3 g1.1 m1 h4 g1.2.2.2
    have a1 := r5 x.2 g1.2.1 hd1 (fun h => h5 h.symm)
    have a2 := r5 y.2 (hc ▸ g2.2.1) g2.2.2.1 (fun h => k5 h.symm)
    rw [a1, a2]
  back x y h hgy := by
    obtain ⟨g1, o1, b1, m1, v1⟩ := nxS_some c h3 h
    obtain ⟨k1, k2, k3, k4⟩ := behC_ok g1.1 m1 b1
    obtain ⟨o, h1, h2, h4, h5, h6⟩ := oth_some c h3 hgy.1 hgy.2.1 hgy.2.2.1 hgy.2.2.2
    have er : revS c y = (y.1, o) := by unfold revS; rw [h1]; rfl
    have ex : revS c x = (x.1, y.2) := by unfold revS; rw [o1]; rfl
    rw [er, ex]
    obtain ⟨p, p1, p2, p3, p4, p5⟩ := oth_some c h3 hgy.1 h2 h4 hgy.2.2.2
    have hp : p = y.2 := (p5 y.2 hgy.2.1 hgy.2.2.1 (fun h => h5 h.symm)).symm
    subst hp
    exact nxS_of c (s := (y.1, o)) ⟨hgy.1, h2, h4, hgy.2.2.2⟩ p1 k4
end
end Go.Proofs.YtlmgkmmdaecpdaaDoor.Mi

namespace Go.Proofs.YtlmgkmmdaecpdaaDoor.Mi
set_option linter.unusedVariables false
section
variable (c : Nat → Nat → Nat)
def putE (acc : List Tri3) (e : Tri3) : List Tri3 := if doorC c e && !acc.contains e then acc ++ [e] else acc
def putsE (acc P : List Tri3) : List Tri3 := P.foldl (putE c) acc
theorem puts_nodup : ∀ (P acc : List Tri3), P.Nodup → (∀ e ∈ P, e ∉ acc) → putsE c acc P = acc ++ P.filter (doorC c)
  | [], acc, _, _ => by simp [putsE]
  | e :: P, acc, hd, hn => by
    have hd2 := List.nodup_cons.1 hd
    have hna := hn e (by simp)
    show putsE c (putE c acc e) P = _
    cases hq : doorC c e with
    | true =>
      have e1 : putE c acc e = acc ++ [e] := by
        unfold putE
        rw [hq, if_pos (by simp [hna])]
      rw [e1, puts_nodup P _ hd2.2 (fun x hx hm => by
        rcases List.mem_append.1 hm with h | h
        · exact hn x (by simp [hx]) h
        · have : x = e := by simpa using h
          exact hd2.1 (this ▸ hx)), List.filter_cons_of_pos hq, List.append_assoc]
      rfl
    | false =>
      have e1 : putE c acc e = acc := by unfold putE; rw [hq]; rfl
      rw [e1, puts_nodup P _ hd2.2 (fun x hx => hn x (by simp [hx])), List.filter_cons_of_neg (by rw [hq]; decide)]
theorem puts_known : ∀ (P acc : List Tri3), (∀ e ∈ P, doorC c e = true → e ∈ acc) → putsE c acc P = acc
  | [], acc, _ => rfl
  | e :: P, acc, h => by
    have e1 : putE c acc e = acc := by
      unfold putE
      rw [if_neg]
      intro hh
      simp only [Bool.and_eq_true, Bool.not_eq_true', List.contains_eq_mem, decide_eq_false_iff_not] at hh
      exact hh.2 (h e (by simp) hh.1)
    show putsE c (putE c acc e) P = acc
    rw [e1]
    exact puts_known P acc fun x hx => h x (by simp [hx])
theorem puts_app (acc P Q : List Tri3) : putsE c acc (P ++ Q) = putsE c (putsE c acc P) Q := by unfold putsE; rw [List.foldl_append]
end
end Go.Proofs.YtlmgkmmdaecpdaaDoor.Mi

namespace Go.Proofs.YtlmgkmmdaecpdaaDoor.Im
open Go.RowKit Go.Proofs.YtlmgkmmdaecpdaaDoorW.PrintWords Go.Proofs.YtlmgkmmdaecpdaaDoorW.PrintLast Go.Proofs.YtlmgkmmdaecpdaaDoorW.PrintMore Go.Proofs.YtlmgkmmdaecpdaaDoor.Mi
set_option linter.unusedVariables false
theorem Gives.map2 {α β γ : Type} {f : Nat → Option α} {r : α} {g : Nat → Option β} {s : β} {h : Nat → Option γ} {t : γ} (h1 : Gives f r) (h2 : Gives g s) (hs : ∀ k, f k = some r → g k = some s → h k = some t) : Gives h t := by
  obtain ⟨k1, h1⟩ := h1
  obtain ⟨k2, h2⟩ := h2
  exact ⟨k1 + k2, fun k hk => hs k (h1 k (by omega)) (h2 k (by omega))⟩
theorem col_size {n : Int} {s : ByteArray} (h : triE n s = 0) : s.size = offT n.toNat (n.toNat + 1) := by
  have := (col_of h).len
  rw [Array.length_toList] at this
  exact this
theorem isD_byte : ∀ x ∈ three, ∀ y ∈ three, (if (((x.toNat : Nat) : Int) = 48) then (if (((y.toNat : Nat) : Int) = 49) then (some true) else (if (((x.toNat : Nat) : Int) = 49) then (some (((y.toNat : Nat) : Int) == 48)) else (some false))) else (if (((x.toNat : Nat) : Int) = 49) then (some (((y.toNat : Nat) : Int) == 48)) else (some false))) = some (isD (x.toNat - 48) (y.toNat - 48)) := by decide +kernel
theorem rdoor_g {n : Nat} {s : ByteArray} (hc : Col n s.data.toList) (hs : s.size = offT n (n + 1)) {a b p q : Nat} (h1 : a + b ≤ n) (h2 : p + q ≤ n) : Gives (fun k => pomaderef04_Door.f k n s a b p q) (isD (cC n s.data.toList a b) (cC n s.data.toList p q)) :=
  (colour_g n s a b hc.n20 h1 hs).map2 (colour_g n s p q hc.n20 h2 hs) fun k k1 k2 => by
    simp only [pomaderef04_Door.f]
    rw [k1, Option.bind_some, k2, Option.bind_some]
    exact isD_byte _ (mem_three (hc.byte h1)) _ (mem_three (hc.byte h2))
theorem rdoor_any {n : Nat} {s : ByteArray} (hc : Col n s.data.toList) (hs : s.size = offT n (n + 1)) {a b p q : Nat} (h1 : a + b ≤ n) (h2 : p + q ≤ n) (w : World) : Calls Tryd.prog 39 #[.int .i64 n, .string s, .agg #[.int .i64 a, .int .i64 b], .agg #[.int .i64 p, .int .i64 q]] w fun e w' => e = .returned (.bool (isD (cC n s.data.toList a b) (cC n s.data.toList p q))) ∧ Below w.heap.size w w' := by
  obtain ⟨k0, hk0⟩ := rdoor_g hc hs h1 h2
  exact pomaderef04_Door.calls k0 n s a b p q _ w (hk0 k0 (Nat.le_refl _))
end Go.Proofs.YtlmgkmmdaecpdaaDoor.Im

namespace Go.Proofs.YtlmgkmmdaecpdaaDoor.Im
open Go.RowKit Go.Proofs.YtlmgkmmdaecpdaaDoorW.PrintWords Go.Proofs.YtlmgkmmdaecpdaaDoorW.PrintLast Go.Proofs.YtlmgkmmdaecpdaaDoorW.PrintMore
attribute [local go_sem] max2_int min2_int max_two min_two max_three min_three max_four min_four
set_option linter.unusedVariables false
set_option linter.unusedSimpArgs false
def slices_Index_int_int.l0 : Nat → List Int → Int → Int → Int → Option (Int)
  | 0, _, _, _, _ => none
  | k + 1, x0, x1, x7, x8 => if x8 < x7 then (if 0 ≤ x8 then (if x8 < (x0.length : Int) then (if x1 = (rd x0 x8) then (some x8) else (slices_Index_int_int.l0 k x0 x1 x7 (wrap64 (x8 + 1)))) else (none)) else (none)) else (some (-1))
def slices_Index_int_int.f (k : Nat) (l0 : List Int) (a1 : Int) : Option (Int) := slices_Index_int_int.l0 k l0 a1 (l0.length : Int) 0
theorem slices_Index_int_int.mono_l : ∀ k, (∀ y0 y1 y2 y3, LeO (slices_Index_int_int.l0 k y0 y1 y2 y3) (slices_Index_int_int.l0 (k + 1) y0 y1 y2 y3))
  | 0 => fun _ _ _ _ r h => by simp [slices_Index_int_int.l0] at h
  | k + 1 => by
    have ih0 := slices_Index_int_int.mono_l k
    · intro y0 y1 y2 y3
      unfold slices_Index_int_int.l0
      repeat' first
      | (with_reducible exact ih0 _ _ _ _)
      | (with_reducible exact LeO.refl _)
      | (with_reducible exact LeO.none _)
      | (with_reducible refine LeO.ite ?_ ?_)
      | (with_reducible refine LeO.bind ?_ (fun _ => ?_))
      | exact ih0 _ _ _ _
      | exact LeO.none _
      | refine LeO.ite ?_ ?_
      | refine LeO.bind ?_ (fun _ => ?_)
theorem slices_Index_int_int.mono : ∀ a0 a1 k, LeO (slices_Index_int_int.f k a0 a1) (slices_Index_int_int.f (k + 1) a0 a1) := by
  intro a0 a1 k
  have ih0 := slices_Index_int_int.mono_l k
  unfold slices_Index_int_int.f
  repeat' first
      | (with_reducible exact ih0 _ _ _ _)
      | (with_reducible exact LeO.refl _)
      | (with_reducible exact LeO.none _)
      | (with_reducible refine LeO.ite ?_ ?_)
      | (with_reducible refine LeO.bind ?_ (fun _ => ?_))
      | exact ih0 _ _ _ _
      | exact LeO.none _
      | refine LeO.ite ?_ ?_
      | refine LeO.bind ?_ (fun _ => ?_)
set_option maxHeartbeats 8000000 in
set_option maxRecDepth 100000 in
theorem slices_Index_int_int.calls (k : Nat) (A0 : Option Addr) (c0 : Nat) (l0 : List Int) (a1 : Int) (r : Int) (w : World) (hr0 : Kd.C (Kd.int .i64) w A0 l0.length l0) (hc0 : l0.length ≤ c0) (h : slices_Index_int_int.f k l0 a1 = some r) :
    Calls Tryd.prog 84 #[.slice A0 l0.length c0, .int .i64 a1] w fun e w' => e = .returned (.int .i64 r) ∧ Drawn0 w w' := by
  have HR0 := Aside0.mk hr0
  have HC0 := Aside0.mk hc0
  clear hr0 hc0
  have H : (slices_Index_int_int.l0 k l0 a1 (l0.length : Int) 0) = some r := h
  clear h
  have H' := Aside0.mk H
  clear H
  go_enter Tryd.func84, Tryd.ntmps84
  go_wp2
  go_loopg [8] k (fun kq v8 w' => ∃ (x8_1 : Int), v8 = .int .i64 x8_1 ∧ Aside0 (slices_Index_int_int.l0 kq l0 a1 (l0.length : Int) x8_1 = some r) ∧ Aside0 (kq ≤ k) ∧ Drawn0 w w')
  case atStart => exact ⟨(0), (by first | rfl | (simp; done) | (simp [*]; done)), H', ⟨Nat.le_refl _⟩, by repeat (first | exact Drawn0.refl _ | apply Drawn0.step)⟩
  case round =>
    clear H'
    try clear p2
    obtain ⟨x8_1, rfl, HA, HK1, ⟨m1, rfl⟩⟩ := hrel
    cases gk with
    | zero => exact absurd HA.out (by simp [slices_Index_int_int.l0])
    | succ k1 =>
      have H := HA.out
      clear HA
      simp only [slices_Index_int_int.l0] at H
      by_cases c3 : x8_1 < (l0.length : Int)
      · rw [if_pos c3] at H
        have c3b0 : decide (x8_1 < (l0.length : Int)) = true := decide_eq_true c3
        clear c3
        by_cases c4 : 0 ≤ x8_1
        · rw [if_pos c4] at H
          have c4b0 : decide (0 ≤ x8_1) = true := decide_eq_true c4
          clear c4
          by_cases c5 : x8_1 < (l0.length : Int)
          · rw [if_pos c5] at H
            have c5b0 : decide (x8_1 < (l0.length : Int)) = true := decide_eq_true c5
            clear c5
            by_cases c6 : a1 = (rd l0 x8_1)
            · rw [if_pos c6] at H
              have c6b0 : (a1 == (rd l0 x8_1)) = true := beq_iff_eq.mpr c6
              have c6b1 : (a1 != (rd l0 x8_1)) = false := bne_eq_false_iff_eq.mpr c6
              clear c6
              obtain rfl := Option.some.inj H
              have p234 : 0 ≤ (x8_1 : Int) := of_decide_eq_true (by first | (with_reducible assumption) | assumption)
              have q234 : x8_1 < (l0.length : Int) := of_decide_eq_true (by first | (with_reducible assumption) | assumption)
              obtain ⟨ad234, e234, hx234_0⟩ := Kd.at_int HR0.out x8_1 p234 q234
              cases e234
              replace p234 := eq_true p234
              replace q234 := eq_true q234
              go_wp2
              go_ret
              exact ⟨by first | rfl | (simp; done) | (simp [*]; done), by repeat (first | exact Drawn0.refl _ | apply Drawn0.step)⟩
            · rw [if_neg c6] at H
              have c6b0 : (a1 == (rd l0 x8_1)) = false := beq_eq_false_iff_ne.mpr c6
              have c6b1 : (a1 != (rd l0 x8_1)) = true := bne_iff_ne.mpr c6
              have H' := Aside0.mk H
              clear H
              have p234 : 0 ≤ (x8_1 : Int) := of_decide_eq_true (by first | (with_reducible assumption) | assumption)
              have q234 : x8_1 < (l0.length : Int) := of_decide_eq_true (by first | (with_reducible assumption) | assumption)
              obtain ⟨ad234, e234, hx234_0⟩ := Kd.at_int HR0.out x8_1 p234 q234
              cases e234
              replace p234 := eq_true p234
              replace q234 := eq_true q234
              go_wp2
              go_roundg k1
              case measure => have := HK1.out; omega
              case rel => exact ⟨(wrap64 (x8_1 + 1)), (by first | rfl | (simp; done) | (simp [*]; done)), H', ⟨by have := HK1.out; omega⟩, by repeat (first | exact Drawn0.refl _ | apply Drawn0.step)⟩
          · rw [if_neg c5] at H
            exact absurd H (by simp)
        · rw [if_neg c4] at H
          exact absurd H (by simp)
      · rw [if_neg c3] at H
        have c3b0 : decide (x8_1 < (l0.length : Int)) = false := decide_eq_false c3
        clear c3
        obtain rfl := Option.some.inj H
        go_wp2
        go_ret
        exact ⟨by first | rfl | (simp; done) | (simp [*]; done), by repeat (first | exact Drawn0.refl _ | apply Drawn0.step)⟩
def slices_Contains_int_int.f (k : Nat) (l0 : List Int) (a1 : Int) : Option (Bool) := (slices_Index_int_int.f k l0 a1).bind fun t235 => (some (decide (t235 ≥ 0)))
theorem slices_Contains_int_int.mono : ∀ a0 a1 k, LeO (slices_Contains_int_int.f k a0 a1) (slices_Contains_int_int.f (k + 1) a0 a1) := by
  intro a0 a1 k
  unfold slices_Contains_int_int.f
  repeat' first
      | (with_reducible exact slices_Index_int_int.mono _ _ _)
      | (with_reducible exact LeO.refl _)
      | (with_reducible exact LeO.none _)
      | (with_reducible refine LeO.ite ?_ ?_)
      | (with_reducible refine LeO.bind ?_ (fun _ => ?_))
      | exact slices_Index_int_int.mono _ _ _
      | exact LeO.none _
      | refine LeO.ite ?_ ?_
      | refine LeO.bind ?_ (fun _ => ?_)
set_option maxHeartbeats 8000000 in
set_option maxRecDepth 100000 in
theorem slices_Contains_int_int.calls (k : Nat) (A0 : Option Addr) (c0 : Nat) (l0 : List Int) (a1 : Int) (r : Bool) (w : World) (hr0 : Kd.C (Kd.int .i64) w A0 l0.length l0) (hc0 : l0.length ≤ c0) (h : slices_Contains_int_int.f k l0 a1 = some r) :
    Calls Tryd.prog 66 #[.slice A0 l0.length c0, .int .i64 a1] w fun e w' => e = .returned (.bool r) ∧ Drawn0 w w' := by
  have HR0 := Aside0.mk hr0
  have HC0 := Aside0.mk hc0
  clear hr0 hc0
  have H : ((slices_Index_int_int.f k l0 a1).bind fun t235 => (some (decide (t235 ≥ 0)))) = some r := h
  clear h
  replace H := Option.bind_eq_some_iff.mp H
  obtain ⟨t235, A30, H⟩ := H
  replace H : (some (decide (t235 ≥ 0))) = some r := H
  have A3 := Aside0.mk A30
  clear A30
  obtain rfl := Option.some.inj H
  go_enter Tryd.func66, Tryd.ntmps66
  go_wp2_with (first | ((with_reducible refine gate_callee (f := 84) rfl ?_); refine goesL_ (some 7) rfl rfl Tryd.func84 (by kernel_rfl) rfl #[.slice A0 l0.length c0, .int .i64 a1] rfl (by (try simp only [List.map_toArray, List.map_cons, List.map_nil]); first | done | rfl | (simp only [List.length_drop, List.length_take]; rfl)) ?_; (with_reducible refine (slices_Index_int_int.calls k _ _ l0 a1 t235 _ ?side1 ?side2 A3.out).mono ?_); (case side1 => repeat (first | exact HR0.out | (with_reducible refine Kd.C_alloc ?_ _) | (with_reducible refine Kd.C_drewN ?_ _) | (with_reducible refine Kd.C_drew ?_))); (case side2 => exact HC0.out); rintro e w' ⟨rfl, ⟨nd, rfl⟩⟩; refine ⟨_, rfl, ?_⟩))
  go_ret
  exact ⟨by first | rfl | (simp; done) | (simp [*]; done), by repeat (first | exact Drawn0.refl _ | apply Drawn0.step)⟩
def cmp_isNaN_int.f (a0 : Int) : Option (Bool) := some (a0 != a0)
set_option maxHeartbeats 8000000 in
set_option maxRecDepth 100000 in
theorem cmp_isNaN_int.calls (a0 : Int) (r : Bool) (w : World) (h : cmp_isNaN_int.f a0 = some r) :
    Calls Tryd.prog 121 #[.int .i64 a0] w fun e w' => e = .returned (.bool r) ∧ Drawn0 w w' := by
  have H : (some (a0 != a0)) = some r := h
  clear h
  obtain rfl := Option.some.inj H
  go_enter Tryd.func121, Tryd.ntmps121
  go_wp2
  go_ret
  exact ⟨by first | rfl | (simp; done) | (simp [*]; done), by repeat (first | exact Drawn0.refl _ | apply Drawn0.step)⟩
def cmp_Compare_int.f (a0 : Int) (a1 : Int) : Option (Int) := (cmp_isNaN_int.f a0).bind fun t235 => ((cmp_isNaN_int.f a1).bind fun t236 => (if t235 = true then (if t236 = true then (some 0) else (some (-1))) else (if t236 = true then (some 1) else (if a0 < a1 then (some (-1)) else (if a0 > a1 then (some 1) else (some 0))))))
set_option maxHeartbeats 8000000 in
set_option maxRecDepth 100000 in
theorem cmp_Compare_int.calls (a0 : Int) (a1 : Int) (r : Int) (w : World) (h : cmp_Compare_int.f a0 a1 = some r) :
    Calls Tryd.prog 99 #[.int .i64 a0, .int .i64 a1] w fun e w' => e = .returned (.int .i64 r) ∧ Drawn0 w w' := by
  have H : ((cmp_isNaN_int.f a0).bind fun t235 => ((cmp_isNaN_int.f a1).bind fun t236 => (if t235 = true then (if t236 = true then (some 0) else (some (-1))) else (if t236 = true then (some 1) else (if a0 < a1 then (some (-1)) else (if a0 > a1 then (some 1) else (some 0))))))) = some r := h
  clear h
  replace H := Option.bind_eq_some_iff.mp H
  obtain ⟨t235, A30, H⟩ := H
  replace H : ((cmp_isNaN_int.f a1).bind fun t236 => (if t235 = true then (if t236 = true then (some 0) else (some (-1))) else (if t236 = true then (some 1) else (if a0 < a1 then (some (-1)) else (if a0 > a1 then (some 1) else (some 0)))))) = some r := H
  have A3 := Aside0.mk A30
  clear A30
  replace H := Option.bind_eq_some_iff.mp H
  obtain ⟨t236, A40, H⟩ := H
  replace H : (if t235 = true then (if t236 = true then (some 0) else (some (-1))) else (if t236 = true then (some 1) else (if a0 < a1 then (some (-1)) else (if a0 > a1 then (some 1) else (some 0))))) = some r := H
  have A4 := Aside0.mk A40
  clear A40
  by_cases c5 : t235 = true
  · subst c5
    have H1 : (if t236 = true then (some 0) else (some (-1))) = some r := by rw [if_pos rfl] at H; exact H
    clear H
    have H := H1
    clear H1
    by_cases c6 : t236 = true
    · subst c6
      have H1 : (some 0) = some r := by rw [if_pos rfl] at H; exact H
      clear H
      have H := H1
      clear H1
      obtain rfl := Option.some.inj H
      go_enter Tryd.func99, Tryd.ntmps99
      go_wp2_with (first | ((with_reducible refine gate_callee (f := 121) rfl ?_); refine goesL_ (some 8) rfl rfl Tryd.func121 (by kernel_rfl) rfl #[.int .i64 a0] rfl (by (try simp only [List.map_toArray, List.map_cons, List.map_nil]); first | done | rfl | (simp only [List.length_drop, List.length_take]; rfl)) ?_; (with_reducible refine (cmp_isNaN_int.calls a0 true _ A3.out).mono ?_); rintro e w' ⟨rfl, ⟨nd, rfl⟩⟩; refine ⟨_, rfl, ?_⟩) | ((with_reducible refine gate_callee (f := 121) rfl ?_); refine goesL_ (some 10) rfl rfl Tryd.func121 (by kernel_rfl) rfl #[.int .i64 a1] rfl (by (try simp only [List.map_toArray, List.map_cons, List.map_nil]); first | done | rfl | (simp only [List.length_drop, List.length_take]; rfl)) ?_; (with_reducible refine (cmp_isNaN_int.calls a1 true _ A4.out).mono ?_); rintro e w' ⟨rfl, ⟨nd, rfl⟩⟩; refine ⟨_, rfl, ?_⟩))
      go_ret
      exact ⟨by first | rfl | (simp; done) | (simp [*]; done), by repeat (first | exact Drawn0.refl _ | apply Drawn0.step)⟩
    · replace c6 := Bool.eq_false_iff.mpr c6
      subst c6
      have H1 : (some (-1)) = some r := by rw [if_neg (show ¬ (false = true) by decide)] at H; exact H
      clear H
      have H := H1
      clear H1
      obtain rfl := Option.some.inj H
      go_enter Tryd.func99, Tryd.ntmps99
      go_wp2_with (first | ((with_reducible refine gate_callee (f := 121) rfl ?_); refine goesL_ (some 8) rfl rfl Tryd.func121 (by kernel_rfl) rfl #[.int .i64 a0] rfl (by (try simp only [List.map_toArray, List.map_cons, List.map_nil]); first | done | rfl | (simp only [List.length_drop, List.length_take]; rfl)) ?_; (with_reducible refine (cmp_isNaN_int.calls a0 true _ A3.out).mono ?_); rintro e w' ⟨rfl, ⟨nd, rfl⟩⟩; refine ⟨_, rfl, ?_⟩) | ((with_reducible refine gate_callee (f := 121) rfl ?_); refine goesL_ (some 10) rfl rfl Tryd.func121 (by kernel_rfl) rfl #[.int .i64 a1] rfl (by (try simp only [List.map_toArray, List.map_cons, List.map_nil]); first | done | rfl | (simp only [List.length_drop, List.length_take]; rfl)) ?_; (with_reducible refine (cmp_isNaN_int.calls a1 false _ A4.out).mono ?_); rintro e w' ⟨rfl, ⟨nd, rfl⟩⟩; refine ⟨_, rfl, ?_⟩))
      go_ret
      exact ⟨by first | rfl | (simp; done) | (simp [*]; done), by repeat (first | exact Drawn0.refl _ | apply Drawn0.step)⟩
  · replace c5 := Bool.eq_false_iff.mpr c5
    subst c5
    have H1 : (if t236 = true then (some 1) else (if a0 < a1 then (some (-1)) else (if a0 > a1 then (some 1) else (some 0)))) = some r := by rw [if_neg (show ¬ (false = true) by decide)] at H; exact H
    clear H
    have H := H1
    clear H1
    by_cases c7 : t236 = true
    · subst c7
      have H1 : (some 1) = some r := by rw [if_pos rfl] at H; exact H
      clear H
      have H := H1
      clear H1
      obtain rfl := Option.some.inj H
      go_enter Tryd.func99, Tryd.ntmps99
      go_wp2_with (first | ((with_reducible refine gate_callee (f := 121) rfl ?_); refine goesL_ (some 8) rfl rfl Tryd.func121 (by kernel_rfl) rfl #[.int .i64 a0] rfl (by (try simp only [List.map_toArray, List.map_cons, List.map_nil]); first | done | rfl | (simp only [List.length_drop, List.length_take]; rfl)) ?_; (with_reducible refine (cmp_isNaN_int.calls a0 false _ A3.out).mono ?_); rintro e w' ⟨rfl, ⟨nd, rfl⟩⟩; refine ⟨_, rfl, ?_⟩) | ((with_reducible refine gate_callee (f := 121) rfl ?_); refine goesL_ (some 10) rfl rfl Tryd.func121 (by kernel_rfl) rfl #[.int .i64 a1] rfl (by (try simp only [List.map_toArray, List.map_cons, List.map_nil]); first | done | rfl | (simp only [List.length_drop, List.length_take]; rfl)) ?_; (with_reducible refine (cmp_isNaN_int.calls a1 true _ A4.out).mono ?_); rintro e w' ⟨rfl, ⟨nd, rfl⟩⟩; refine ⟨_, rfl, ?_⟩))
      go_ret
      exact ⟨by first | rfl | (simp; done) | (simp [*]; done), by repeat (first | exact Drawn0.refl _ | apply Drawn0.step)⟩
    · replace c7 := Bool.eq_false_iff.mpr c7
      subst c7
      have H1 : (if a0 < a1 then (some (-1)) else (if a0 > a1 then (some 1) else (some 0))) = some r := by rw [if_neg (show ¬ (false = true) by decide)] at H; exact H
      clear H
      have H := H1
      clear H1
      by_cases c8 : a0 < a1
      · rw [if_pos c8] at H
        have c8b0 : decide (a0 < a1) = true := decide_eq_true c8
        clear c8
        obtain rfl := Option.some.inj H
        go_enter Tryd.func99, Tryd.ntmps99
        go_wp2_with (first | ((with_reducible refine gate_callee (f := 121) rfl ?_); refine goesL_ (some 8) rfl rfl Tryd.func121 (by kernel_rfl) rfl #[.int .i64 a0] rfl (by (try simp only [List.map_toArray, List.map_cons, List.map_nil]); first | done | rfl | (simp only [List.length_drop, List.length_take]; rfl)) ?_; (with_reducible refine (cmp_isNaN_int.calls a0 false _ A3.out).mono ?_); rintro e w' ⟨rfl, ⟨nd, rfl⟩⟩; refine ⟨_, rfl, ?_⟩) | ((with_reducible refine gate_callee (f := 121) rfl ?_); refine goesL_ (some 10) rfl rfl Tryd.func121 (by kernel_rfl) rfl #[.int .i64 a1] rfl (by (try simp only [List.map_toArray, List.map_cons, List.map_nil]); first | done | rfl | (simp only [List.length_drop, List.length_take]; rfl)) ?_; (with_reducible refine (cmp_isNaN_int.calls a1 false _ A4.out).mono ?_); rintro e w' ⟨rfl, ⟨nd, rfl⟩⟩; refine ⟨_, rfl, ?_⟩))
        go_ret
        exact ⟨by first | rfl | (simp; done) | (simp [*]; done), by repeat (first | exact Drawn0.refl _ | apply Drawn0.step)⟩
      · rw [if_neg c8] at H
        have c8b0 : decide (a0 < a1) = false := decide_eq_false c8
        clear c8
        by_cases c9 : a0 > a1
        · rw [if_pos c9] at H
          have c9b0 : decide (a1 < a0) = true := decide_eq_true c9
          clear c9
          obtain rfl := Option.some.inj H
          go_enter Tryd.func99, Tryd.ntmps99
          go_wp2_with (first | ((with_reducible refine gate_callee (f := 121) rfl ?_); refine goesL_ (some 8) rfl rfl Tryd.func121 (by kernel_rfl) rfl #[.int .i64 a0] rfl (by (try simp only [List.map_toArray, List.map_cons, List.map_nil]); first | done | rfl | (simp only [List.length_drop, List.length_take]; rfl)) ?_; (with_reducible refine (cmp_isNaN_int.calls a0 false _ A3.out).mono ?_); rintro e w' ⟨rfl, ⟨nd, rfl⟩⟩; refine ⟨_, rfl, ?_⟩) | ((with_reducible refine gate_callee (f := 121) rfl ?_); refine goesL_ (some 10) rfl rfl Tryd.func121 (by kernel_rfl) rfl #[.int .i64 a1] rfl (by (try simp only [List.map_toArray, List.map_cons, List.map_nil]); first | done | rfl | (simp only [List.length_drop, List.length_take]; rfl)) ?_; (with_reducible refine (cmp_isNaN_int.calls a1 false _ A4.out).mono ?_); rintro e w' ⟨rfl, ⟨nd, rfl⟩⟩; refine ⟨_, rfl, ?_⟩))
          go_ret
          exact ⟨by first | rfl | (simp; done) | (simp [*]; done), by repeat (first | exact Drawn0.refl _ | apply Drawn0.step)⟩
        · rw [if_neg c9] at H
          have c9b0 : decide (a1 < a0) = false := decide_eq_false c9
          clear c9
          obtain rfl := Option.some.inj H
          go_enter Tryd.func99, Tryd.ntmps99
          go_wp2_with (first | ((with_reducible refine gate_callee (f := 121) rfl ?_); refine goesL_ (some 8) rfl rfl Tryd.func121 (by kernel_rfl) rfl #[.int .i64 a0] rfl (by (try simp only [List.map_toArray, List.map_cons, List.map_nil]); first | done | rfl | (simp only [List.length_drop, List.length_take]; rfl)) ?_; (with_reducible refine (cmp_isNaN_int.calls a0 false _ A3.out).mono ?_); rintro e w' ⟨rfl, ⟨nd, rfl⟩⟩; refine ⟨_, rfl, ?_⟩) | ((with_reducible refine gate_callee (f := 121) rfl ?_); refine goesL_ (some 10) rfl rfl Tryd.func121 (by kernel_rfl) rfl #[.int .i64 a1] rfl (by (try simp only [List.map_toArray, List.map_cons, List.map_nil]); first | done | rfl | (simp only [List.length_drop, List.length_take]; rfl)) ?_; (with_reducible refine (cmp_isNaN_int.calls a1 false _ A4.out).mono ?_); rintro e w' ⟨rfl, ⟨nd, rfl⟩⟩; refine ⟨_, rfl, ?_⟩))
          go_ret
          exact ⟨by first | rfl | (simp; done) | (simp [*]; done), by repeat (first | exact Drawn0.refl _ | apply Drawn0.step)⟩
def slices_Compare_int_int.l0 : Nat → List Int → List Int → List Int → Int → Int → Option (Int)
  | 0, _, _, _, _, _ => none
  | k + 1, x0, x1, x9, x10, x11 => if x11 < x10 then (if 0 ≤ x11 then (if x11 < (x9.length : Int) then (if x11 ≥ (x1.length : Int) then (some 1) else (if x11 < (x1.length : Int) then ((cmp_Compare_int.f (rd x9 x11) (rd x1 x11)).bind fun t239 => (if t239 = 0 then (slices_Compare_int_int.l0 k x0 x1 x9 x10 (wrap64 (x11 + 1))) else (some t239))) else (none))) else (none)) else (none)) else (if (x0.length : Int) < (x1.length : Int) then (some (-1)) else (some 0))
def slices_Compare_int_int.f (k : Nat) (l0 : List Int) (l1 : List Int) : Option (Int) := slices_Compare_int_int.l0 k l0 l1 l0 (l0.length : Int) 0
theorem slices_Compare_int_int.mono_l : ∀ k, (∀ y0 y1 y2 y3 y4, LeO (slices_Compare_int_int.l0 k y0 y1 y2 y3 y4) (slices_Compare_int_int.l0 (k + 1) y0 y1 y2 y3 y4))
  | 0 => fun _ _ _ _ _ r h => by simp [slices_Compare_int_int.l0] at h
  | k + 1 => by
    have ih0 := slices_Compare_int_int.mono_l k
    · intro y0 y1 y2 y3 y4
      unfold slices_Compare_int_int.l0
      repeat' first
      | (with_reducible exact ih0 _ _ _ _ _)
      | (with_reducible exact LeO.refl _)
      | (with_reducible exact LeO.none _)
      | (with_reducible refine LeO.ite ?_ ?_)
      | (with_reducible refine LeO.bind ?_ (fun _ => ?_))
      | exact ih0 _ _ _ _ _
      | exact LeO.none _
      | refine LeO.ite ?_ ?_
      | refine LeO.bind ?_ (fun _ => ?_)
theorem slices_Compare_int_int.mono : ∀ a0 a1 k, LeO (slices_Compare_int_int.f k a0 a1) (slices_Compare_int_int.f (k + 1) a0 a1) := by
  intro a0 a1 k
  have ih0 := slices_Compare_int_int.mono_l k
  unfold slices_Compare_int_int.f
  repeat' first
      | (with_reducible exact ih0 _ _ _ _ _)
      | (with_reducible exact LeO.refl _)
      | (with_reducible exact LeO.none _)
      | (with_reducible refine LeO.ite ?_ ?_)
      | (with_reducible refine LeO.bind ?_ (fun _ => ?_))
      | exact ih0 _ _ _ _ _
      | exact LeO.none _
      | refine LeO.ite ?_ ?_
      | refine LeO.bind ?_ (fun _ => ?_)
set_option maxHeartbeats 8000000 in
set_option maxRecDepth 100000 in
theorem slices_Compare_int_int.calls (k : Nat) (A0 : Option Addr) (c0 : Nat) (l0 : List Int) (A1 : Option Addr) (c1 : Nat) (l1 : List Int) (r : Int) (w : World) (hr0 : Kd.C (Kd.int .i64) w A0 l0.length l0) (hc0 : l0.length ≤ c0) (hr1 : Kd.C (Kd.int .i64) w A1 l1.length l1) (hc1 : l1.length ≤ c1) (h : slices_Compare_int_int.f k l0 l1 = some r) :
    Calls Tryd.prog 86 #[.slice A0 l0.length c0, .slice A1 l1.length c1] w fun e w' => e = .returned (.int .i64 r) ∧ Drawn0 w w' := by
  have HR0 := Aside0.mk hr0
  have HC0 := Aside0.mk hc0
  clear hr0 hc0
  have HR1 := Aside0.mk hr1
  have HC1 := Aside0.mk hc1
  clear hr1 hc1
  have H : (slices_Compare_int_int.l0 k l0 l1 l0 (l0.length : Int) 0) = some r := h
  clear h
  have H' := Aside0.mk H
  clear H
  go_enter Tryd.func86, Tryd.ntmps86
  go_wp2
  go_loopg [11] k (fun kq v11 w' => ∃ (x11_1 : Int), v11 = .int .i64 x11_1 ∧ Aside0 (slices_Compare_int_int.l0 kq l0 l1 l0 (l0.length : Int) x11_1 = some r) ∧ Aside0 (kq ≤ k) ∧ Drawn0 w w')
  case atStart => exact ⟨(0), (by first | rfl | (simp; done) | (simp [*]; done)), H', ⟨Nat.le_refl _⟩, by repeat (first | exact Drawn0.refl _ | apply Drawn0.step)⟩
  case round =>
    clear H'
    try clear c1
    try clear p2
    obtain ⟨x11_1, rfl, HA, HK1, ⟨m1, rfl⟩⟩ := hrel
    cases gk with
    | zero => exact absurd HA.out (by simp [slices_Compare_int_int.l0])
    | succ k1 =>
      have H := HA.out
      clear HA
      simp only [slices_Compare_int_int.l0] at H
      by_cases c3 : x11_1 < (l0.length : Int)
      · rw [if_pos c3] at H
        have c3b0 : decide (x11_1 < (l0.length : Int)) = true := decide_eq_true c3
        clear c3
        by_cases c4 : 0 ≤ x11_1
        · rw [if_pos c4] at H
          have c4b0 : decide (0 ≤ x11_1) = true := decide_eq_true c4
          clear c4
          by_cases c5 : x11_1 < (l0.length : Int)
          · rw [if_pos c5] at H
            have c5b0 : decide (x11_1 < (l0.length : Int)) = true := decide_eq_true c5
            clear c5
            by_cases c6 : x11_1 ≥ (l1.length : Int)
            · rw [if_pos c6] at H
              have c6b0 : decide ((l1.length : Int) ≤ x11_1) = true := decide_eq_true c6
              clear c6
              obtain rfl := Option.some.inj H
              have p237 : 0 ≤ (x11_1 : Int) := of_decide_eq_true (by first | (with_reducible assumption) | assumption)
              have q237 : x11_1 < (l0.length : Int) := of_decide_eq_true (by first | (with_reducible assumption) | assumption)
              obtain ⟨ad237, e237, hx237_0⟩ := Kd.at_int HR0.out x11_1 p237 q237
              cases e237
              replace p237 := eq_true p237
              replace q237 := eq_true q237
              go_wp2
              go_ret
              exact ⟨by first | rfl | (simp; done) | (simp [*]; done), by repeat (first | exact Drawn0.refl _ | apply Drawn0.step)⟩
            · rw [if_neg c6] at H
              have c6b0 : decide ((l1.length : Int) ≤ x11_1) = false := decide_eq_false c6
              clear c6
              by_cases c7 : x11_1 < (l1.length : Int)
              · rw [if_pos c7] at H
                have c7b0 : decide (x11_1 < (l1.length : Int)) = true := decide_eq_true c7
                clear c7
                replace H := Option.bind_eq_some_iff.mp H
                obtain ⟨t239, A80, H⟩ := H
                replace H : (if t239 = 0 then (slices_Compare_int_int.l0 k1 l0 l1 l0 (l0.length : Int) (wrap64 (x11_1 + 1))) else (some t239)) = some r := H
                have A8 := Aside0.mk A80
                clear A80
                by_cases c9 : t239 = 0
                · rw [if_pos c9] at H
                  have c9b0 : (t239 == 0) = true := beq_iff_eq.mpr c9
                  have c9b1 : (t239 != 0) = false := bne_eq_false_iff_eq.mpr c9
                  clear c9
                  have H' := Aside0.mk H
                  clear H
                  have p237 : 0 ≤ (x11_1 : Int) := of_decide_eq_true (by first | (with_reducible assumption) | assumption)
                  have q237 : x11_1 < (l0.length : Int) := of_decide_eq_true (by first | (with_reducible assumption) | assumption)
                  obtain ⟨ad237, e237, hx237_0⟩ := Kd.at_int HR0.out x11_1 p237 q237
                  cases e237
                  replace p237 := eq_true p237
                  replace q237 := eq_true q237
                  have p238 : 0 ≤ (x11_1 : Int) := of_decide_eq_true (by first | (with_reducible assumption) | assumption)
                  have q238 : x11_1 < (l1.length : Int) := of_decide_eq_true (by first | (with_reducible assumption) | assumption)
                  obtain ⟨ad238, e238, hx238_0⟩ := Kd.at_int HR1.out x11_1 p238 q238
                  cases e238
                  replace p238 := eq_true p238
                  replace q238 := eq_true q238
                  go_wp2_with (first | ((with_reducible refine gate_callee (f := 99) rfl ?_); refine goesL_ (some 26) rfl rfl Tryd.func99 (by kernel_rfl) rfl #[.int .i64 (rd l0 x11_1), .int .i64 (rd l1 x11_1)] rfl (by (try simp only [List.map_toArray, List.map_cons, List.map_nil]); first | done | rfl | (simp only [List.length_drop, List.length_take]; rfl)) ?_; (with_reducible refine (cmp_Compare_int.calls (rd l0 x11_1) (rd l1 x11_1) t239 _ A8.out).mono ?_); rintro e w' ⟨rfl, ⟨nd, rfl⟩⟩; refine ⟨_, rfl, ?_⟩))
                  go_roundg k1
                  case measure => have := HK1.out; omega
                  case rel => exact ⟨(wrap64 (x11_1 + 1)), (by first | rfl | (simp; done) | (simp [*]; done)), H', ⟨by have := HK1.out; omega⟩, by repeat (first | exact Drawn0.refl _ | apply Drawn0.step)⟩
                · rw [if_neg c9] at H
                  have c9b0 : (t239 == 0) = false := beq_eq_false_iff_ne.mpr c9
                  have c9b1 : (t239 != 0) = true := bne_iff_ne.mpr c9
                  obtain rfl := Option.some.inj H
                  have p237 : 0 ≤ (x11_1 : Int) := of_decide_eq_true (by first | (with_reducible assumption) | assumption)
                  have q237 : x11_1 < (l0.length : Int) := of_decide_eq_true (by first | (with_reducible assumption) | assumption)
                  obtain ⟨ad237, e237, hx237_0⟩ := Kd.at_int HR0.out x11_1 p237 q237
                  cases e237
                  replace p237 := eq_true p237
                  replace q237 := eq_true q237
                  have p238 : 0 ≤ (x11_1 : Int) := of_decide_eq_true (by first | (with_reducible assumption) | assumption)
                  have q238 : x11_1 < (l1.length : Int) := of_decide_eq_true (by first | (with_reducible assumption) | assumption)
                  obtain ⟨ad238, e238, hx238_0⟩ := Kd.at_int HR1.out x11_1 p238 q238
                  cases e238
                  replace p238 := eq_true p238
                  replace q238 := eq_true q238
                  go_wp2_with (first | ((with_reducible refine gate_callee (f := 99) rfl ?_); refine goesL_ (some 26) rfl rfl Tryd.func99 (by kernel_rfl) rfl #[.int .i64 (rd l0 x11_1), .int .i64 (rd l1 x11_1)] rfl (by (try simp only [List.map_toArray, List.map_cons, List.map_nil]); first | done | rfl | (simp only [List.length_drop, List.length_take]; rfl)) ?_; (with_reducible refine (cmp_Compare_int.calls (rd l0 x11_1) (rd l1 x11_1) t239 _ A8.out).mono ?_); rintro e w' ⟨rfl, ⟨nd, rfl⟩⟩; refine ⟨_, rfl, ?_⟩))
                  go_ret
                  exact ⟨by first | rfl | (simp; done) | (simp [*]; done), by repeat (first | exact Drawn0.refl _ | apply Drawn0.step)⟩
              · rw [if_neg c7] at H
                exact absurd H (by simp)
          · rw [if_neg c5] at H
            exact absurd H (by simp)
        · rw [if_neg c4] at H
          exact absurd H (by simp)
      · rw [if_neg c3] at H
        have c3b0 : decide (x11_1 < (l0.length : Int)) = false := decide_eq_false c3
        clear c3
        by_cases c10 : (l0.length : Int) < (l1.length : Int)
        · rw [if_pos c10] at H
          have c10b0 : decide ((l0.length : Int) < (l1.length : Int)) = true := decide_eq_true c10
          have c10b1 : decide (l0.length < l1.length) = true := decide_eq_true (Int.ofNat_lt.mp c10)
          clear c10
          obtain rfl := Option.some.inj H
          go_wp2
          go_ret
          exact ⟨by first | rfl | (simp; done) | (simp [*]; done), by repeat (first | exact Drawn0.refl _ | apply Drawn0.step)⟩
        · rw [if_neg c10] at H
          have c10b0 : decide ((l0.length : Int) < (l1.length : Int)) = false := decide_eq_false c10
          have c10b1 : decide (l0.length < l1.length) = false := decide_eq_false (fun h => c10 (Int.ofNat_lt.mpr h))
          clear c10
          obtain rfl := Option.some.inj H
          go_wp2
          go_ret
          exact ⟨by first | rfl | (simp; done) | (simp [*]; done), by repeat (first | exact Drawn0.refl _ | apply Drawn0.step)⟩
end Go.Proofs.YtlmgkmmdaecpdaaDoor.Im

namespace Go.Proofs.YtlmgkmmdaecpdaaDoor.Im
open Go.RowKit Go.Proofs.YtlmgkmmdaecpdaaDoorW.PrintWords Go.Proofs.YtlmgkmmdaecpdaaDoorW.PrintLast Go.Proofs.YtlmgkmmdaecpdaaDoorW.PrintMore Go.Proofs.YtlmgkmmdaecpdaaDoor.Mi
set_option linter.unusedVariables false
set_option linter.unusedSimpArgs false
theorem cmp_f (a b : Int) : cmp_Compare_int.f a b = some (if a < b then -1 else if a > b then 1 else 0) := by
  have h : ∀ x : Int, (x != x) = false := fun x => by simp
  unfold cmp_Compare_int.f cmp_isNaN_int.f
  rw [Option.bind_some, Option.bind_some, h, h, if_neg (by decide), if_neg (by decide)]
  split
  · rfl
  · split <;> rfl
def cmpP (a b c d : Int) : Int := if a < c then -1 else if a > c then 1 else if b < d then -1 else if b > d then 1 else 0
theorem compare_f (a b c d : Int) : slices_Compare_int_int.f 5 [a, b] [c, d] = some (cmpP a b c d) := by
  have r0 : ∀ x y : Int, rd [x, y] 0 = x := fun x y => rfl
  have r1 : ∀ x y : Int, rd [x, y] 1 = y := fun x y => rfl
  have w1 : wrap64 (0 + 1) = 1 := wr_small (x := 0 + 1) (by decide) (by decide)
  have w2 : wrap64 (1 + 1) = 2 := wr_small (x := 1 + 1) (by decide) (by decide)
  have l2 : ∀ x y : Int, (([x, y] : List Int).length : Int) = 2 := fun x y => rfl
  unfold slices_Compare_int_int.f cmpP
  simp only [slices_Compare_int_int.l0, l2, r0, r1, cmp_f, w1, w2, Option.bind_some]
  by_cases h1 : a < c
  · simp [h1]
  · by_cases h2 : c < a
    · simp [h1, h2]
    · by_cases h3 : b < d
      · simp [h1, h2, h3]
      · by_cases h4 : d < b
        · simp [h1, h2, h3, h4]
        · simp [h1, h2, h3, h4]
theorem cmp_lt {a b c d : Int} (h : a < c ∨ a = c ∧ b < d) : cmpP a b c d = -1 := by
  unfold cmpP
  repeat' split
  all_goals first
    | rfl
    | (exfalso; omega)
theorem cmp_gt {a b c d : Int} (h : c < a ∨ a = c ∧ d < b) : cmpP a b c d = 1 := by
  unfold cmpP
  repeat' split
  all_goals first
    | rfl
    | (exfalso; omega)
theorem C_pt {w : World} {g : Nat} {t : TypeId} {a b : Int} (h : Blk w g t #[.int .i64 a, .int .i64 b]) : Kd.C (Kd.int .i64) w (some ⟨g, 0, none⟩) [a, b].length [a, b] := by
  refine Kd.C_of_reads (d := (0 : Int)) ⟨rfl, (by simp : (2 : Nat) ≤ 9223372036854775807), fun _ => ⟨_, rfl, fun j hj => ?_⟩⟩
  rw [add_plain, h.cell]
  have hj2 : j < 2 := hj
  match j, hj2 with
  | 0, _ => rfl
  | 1, _ => rfl
theorem compare_q (a b c d : Int) (A B : Nat) (t u : TypeId) (w : World) (hA : Blk w A t #[.int .i64 a, .int .i64 b]) (hB : Blk w B u #[.int .i64 c, .int .i64 d]) : Calls Tryd.prog 86 #[.slice (some ⟨A, 0, none⟩) 2 2, .slice (some ⟨B, 0, none⟩) 2 2] w fun e w' => e = .returned (.int .i64 (cmpP a b c d)) ∧ ∃ m, w' = w.drewN m :=
  (slices_Compare_int_int.calls 5 (some ⟨A, 0, none⟩) 2 [a, b] (some ⟨B, 0, none⟩) 2 [c, d] _ w (C_pt hA) (Nat.le_refl _) (C_pt hB) (Nat.le_refl _) (compare_f a b c d)).mono fun e w' ⟨h1, h2⟩ => ⟨h1, h2.out⟩
set_option maxHeartbeats 6400000 in
set_option maxRecDepth 100000 in
theorem between_lt (a b c d : Int) (w : World) (h : cmpP a b c d = -1) :
    Calls Tryd.prog 74 #[.agg #[.int .i64 a, .int .i64 b], .agg #[.int .i64 c, .int .i64 d]] w fun e w' => e = .returned (.agg #[.int .i64 a, .int .i64 b, .int .i64 c, .int .i64 d]) ∧ Below w.heap.size w w' := by
  have HCm := Aside0.mk (fun (A B : Nat) (t u : TypeId) (w1 : World) hA hB => h ▸ compare_q a b c d A B t u w1 hA hB)
  clear h
  go_enter Tryd.func74, Tryd.ntmps74
  go_wp2_with fail
  obtain ⟨g, hg⟩ : ∃ g, w.heap.size = g := ⟨_, rfl⟩
  have h1 : Blk (((w.alloc (.cells #[.int .i64 a, .int .i64 b] 95)).alloc (.cells #[.int .i64 c, .int .i64 d] 95)).alloc (.cells #[.int .i64 0, .int .i64 0, .int .i64 0, .int .i64 0] 97)) g 95 #[.int .i64 a, .int .i64 b] := by rw [← hg]; exact ((Blk.new w _ _).alloc _).alloc _
  have h2 : Blk (((w.alloc (.cells #[.int .i64 a, .int .i64 b] 95)).alloc (.cells #[.int .i64 c, .int .i64 d] 95)).alloc (.cells #[.int .i64 0, .int .i64 0, .int .i64 0, .int .i64 0] 97)) (g + 1) 95 #[.int .i64 c, .int .i64 d] := by rw [← hg]; exact (Blk.new' (by simp)).alloc _
  have h3 : Blk (((w.alloc (.cells #[.int .i64 a, .int .i64 b] 95)).alloc (.cells #[.int .i64 c, .int .i64 d] 95)).alloc (.cells #[.int .i64 0, .int .i64 0, .int .i64 0, .int .i64 0] 97)) (g + 2) 97 #[.int .i64 0, .int .i64 0, .int .i64 0, .int .i64 0] := by rw [← hg]; exact Blk.new' (by simp)
  have hb : Below w.heap.size w (((w.alloc (.cells #[.int .i64 a, .int .i64 b] 95)).alloc (.cells #[.int .i64 c, .int .i64 d] 95)).alloc (.cells #[.int .i64 0, .int .i64 0, .int .i64 0, .int .i64 0] 97)) := below_alloc (below_alloc (below_alloc (Below.refl _ _) _) _) _
  have H1 := Aside0.mk h1
  have H2 := Aside0.mk h2
  have H3 := Aside0.mk h3
  have HB := Aside0.mk hb
  rw [hg] at HB ⊢
  clear h1 h2 h3 hb
  generalize (((w.alloc (.cells #[.int .i64 a, .int .i64 b] 95)).alloc (.cells #[.int .i64 c, .int .i64 d] 95)).alloc (.cells #[.int .i64 0, .int .i64 0, .int .i64 0, .int .i64 0] 97)) = W at *
  have HC2 := Aside0.mk (fun m => HCm.out _ _ _ _ (W.drewN m) (H1.out.drewN m) (H2.out.drewN m))
  clear HCm
  go_quiet (first | exact Calls.quiet_of (HC2.out _))
  have f1 := fun (i : Nat) => (H1.out.drewN nq).frozen i
  have f2 := fun (i : Nat) => (H2.out.drewN nq).frozen i
  have f3 := fun (i : Nat) => (H3.out.drewN nq).frozen i
  have a0 : (W.drewN nq).cell? ⟨g, 0, none⟩ = some (.int .i64 a) := (H1.out.drewN nq).cell 0
  have a1 : (W.drewN nq).cell? ⟨g, 1, none⟩ = some (.int .i64 b) := (H1.out.drewN nq).cell 1
  have b0 : (W.drewN nq).cell? ⟨g + 1, 0, none⟩ = some (.int .i64 c) := (H2.out.drewN nq).cell 0
  have b1 : (W.drewN nq).cell? ⟨g + 1, 1, none⟩ = some (.int .i64 d) := (H2.out.drewN nq).cell 1
  have o0 : (W.drewN nq).cell? ⟨g + 2, 0, none⟩ = some (.int .i64 0) := (H3.out.drewN nq).cell 0
  have o1 : (W.drewN nq).cell? ⟨g + 2, 1, none⟩ = some (.int .i64 0) := (H3.out.drewN nq).cell 1
  have o2 : (W.drewN nq).cell? ⟨g + 2, 2, none⟩ = some (.int .i64 0) := (H3.out.drewN nq).cell 2
  have o3 : (W.drewN nq).cell? ⟨g + 2, 3, none⟩ = some (.int .i64 0) := (H3.out.drewN nq).cell 3
  go_wp2_with fail
  have hBB := HB.out
  have hB := (((((H3.out.drewN nq).set_ 0 (.int .i64 a)).set_ 1 (.int .i64 b)).set_ 2 (.int .i64 c)).set_ 3 (.int .i64 d))
  have hE := (((((pw_below_drewN hBB nq).setCell (p := ⟨g + 2, 0, none⟩) (by show g ≤ g + 2; omega) (.int .i64 a)).setCell (p := ⟨g + 2, 1, none⟩) (by show g ≤ g + 2; omega) (.int .i64 b)).setCell (p := ⟨g + 2, 2, none⟩) (by show g ≤ g + 2; omega) (.int .i64 c)).setCell (p := ⟨g + 2, 3, none⟩) (by show g ≤ g + 2; omega) (.int .i64 d))
  refine bodyPost_ret (results_cell_row rfl _ _ (g + 2) 97 #[.int .i64 a, .int .i64 b, .int .i64 c, .int .i64 d] (0, 0) _ rfl hB Tryd.underlying97 rfl (by kernel_rfl)) rfl ?_
  refine ⟨rfl, ?_⟩
  rw [hg]
  exact hE
set_option maxHeartbeats 6400000 in
set_option maxRecDepth 100000 in
theorem between_gt (a b c d : Int) (w : World) (h : cmpP a b c d = 1) :
    Calls Tryd.prog 74 #[.agg #[.int .i64 a, .int .i64 b], .agg #[.int .i64 c, .int .i64 d]] w fun e w' => e = .returned (.agg #[.int .i64 c, .int .i64 d, .int .i64 a, .int .i64 b]) ∧ Below w.heap.size w w' := by
  have HCm := Aside0.mk (fun (A B : Nat) (t u : TypeId) (w1 : World) hA hB => h ▸ compare_q a b c d A B t u w1 hA hB)
  clear h
  go_enter Tryd.func74, Tryd.ntmps74
  go_wp2_with fail
  obtain ⟨g, hg⟩ : ∃ g, w.heap.size = g := ⟨_, rfl⟩
  have h1 : Blk (((w.alloc (.cells #[.int .i64 a, .int .i64 b] 95)).alloc (.cells #[.int .i64 c, .int .i64 d] 95)).alloc (.cells #[.int .i64 0, .int .i64 0, .int .i64 0, .int .i64 0] 97)) g 95 #[.int .i64 a, .int .i64 b] := by rw [← hg]; exact ((Blk.new w _ _).alloc _).alloc _
  have h2 : Blk (((w.alloc (.cells #[.int .i64 a, .int .i64 b] 95)).alloc (.cells #[.int .i64 c, .int .i64 d] 95)).alloc (.cells #[.int .i64 0, .int .i64 0, .int .i64 0, .int .i64 0] 97)) (g + 1) 95 #[.int .i64 c, .int .i64 d] := by rw [← hg]; exact (Blk.new' (by simp)).alloc _
  have h3 : Blk (((w.alloc (.cells #[.int .i64 a, .int .i64 b] 95)).alloc (.cells #[.int .i64 c, .int .i64 d] 95)).alloc (.cells #[.int .i64 0, .int .i64 0, .int .i64 0, .int .i64 0] 97)) (g + 2) 97 #[.int .i64 0, .int .i64 0, .int .i64 0, .int .i64 0] := by rw [← hg]; exact Blk.new' (by simp)
  have hb : Below w.heap.size w (((w.alloc (.cells #[.int .i64 a, .int .i64 b] 95)).alloc (.cells #[.int .i64 c, .int .i64 d] 95)).alloc (.cells #[.int .i64 0, .int .i64 0, .int .i64 0, .int .i64 0] 97)) := below_alloc (below_alloc (below_alloc (Below.refl _ _) _) _) _
  have H1 := Aside0.mk h1
  have H2 := Aside0.mk h2
  have H3 := Aside0.mk h3
  have HB := Aside0.mk hb
  rw [hg] at HB ⊢
  clear h1 h2 h3 hb
  generalize (((w.alloc (.cells #[.int .i64 a, .int .i64 b] 95)).alloc (.cells #[.int .i64 c, .int .i64 d] 95)).alloc (.cells #[.int .i64 0, .int .i64 0, .int .i64 0, .int .i64 0] 97)) = W at *
  have HC2 := Aside0.mk (fun m => HCm.out _ _ _ _ (W.drewN m) (H1.out.drewN m) (H2.out.drewN m))
  clear HCm
  go_quiet (first | exact Calls.quiet_of (HC2.out _))
  have f1 := fun (i : Nat) => (H1.out.drewN nq).frozen i
  have f2 := fun (i : Nat) => (H2.out.drewN nq).frozen i
  have f3 := fun (i : Nat) => (H3.out.drewN nq).frozen i
  have a0 : (W.drewN nq).cell? ⟨g, 0, none⟩ = some (.int .i64 a) := (H1.out.drewN nq).cell 0
  have a1 : (W.drewN nq).cell? ⟨g, 1, none⟩ = some (.int .i64 b) := (H1.out.drewN nq).cell 1
  have b0 : (W.drewN nq).cell? ⟨g + 1, 0, none⟩ = some (.int .i64 c) := (H2.out.drewN nq).cell 0
  have b1 : (W.drewN nq).cell? ⟨g + 1, 1, none⟩ = some (.int .i64 d) := (H2.out.drewN nq).cell 1
  have o0 : (W.drewN nq).cell? ⟨g + 2, 0, none⟩ = some (.int .i64 0) := (H3.out.drewN nq).cell 0
  have o1 : (W.drewN nq).cell? ⟨g + 2, 1, none⟩ = some (.int .i64 0) := (H3.out.drewN nq).cell 1
  have o2 : (W.drewN nq).cell? ⟨g + 2, 2, none⟩ = some (.int .i64 0) := (H3.out.drewN nq).cell 2
  have o3 : (W.drewN nq).cell? ⟨g + 2, 3, none⟩ = some (.int .i64 0) := (H3.out.drewN nq).cell 3
  go_wp2_with fail
  have hBB := HB.out
  have hB := ((((((((((H3.out.drewN nq).far (p := ⟨g, 0, none⟩) (by simp) (.int .i64 c)).far (p := ⟨g, 1, none⟩) (by simp) (.int .i64 d)).far (p := ⟨g + 1, 0, none⟩) (by simp) (.int .i64 a)).far (p := ⟨g + 1, 1, none⟩) (by simp) (.int .i64 b))).set_ 0 (.int .i64 c)).set_ 1 (.int .i64 d)).set_ 2 (.int .i64 a)).set_ 3 (.int .i64 b))
  have hE := ((((((((((pw_below_drewN hBB nq).setCell (p := ⟨g, 0, none⟩) (Nat.le_refl g) (.int .i64 c)).setCell (p := ⟨g, 1, none⟩) (Nat.le_refl g) (.int .i64 d)).setCell (p := ⟨g + 1, 0, none⟩) (Nat.le_succ g) (.int .i64 a)).setCell (p := ⟨g + 1, 1, none⟩) (Nat.le_succ g) (.int .i64 b))).setCell (p := ⟨g + 2, 0, none⟩) (by show g ≤ g + 2; omega) (.int .i64 c)).setCell (p := ⟨g + 2, 1, none⟩) (by show g ≤ g + 2; omega) (.int .i64 d)).setCell (p := ⟨g + 2, 2, none⟩) (by show g ≤ g + 2; omega) (.int .i64 a)).setCell (p := ⟨g + 2, 3, none⟩) (by show g ≤ g + 2; omega) (.int .i64 b))
  refine bodyPost_ret (results_cell_row rfl _ _ (g + 2) 97 #[.int .i64 c, .int .i64 d, .int .i64 a, .int .i64 b] (0, 0) _ rfl hB Tryd.underlying97 rfl (by kernel_rfl)) rfl ?_
  refine ⟨rfl, ?_⟩
  rw [hg]
  exact hE
end Go.Proofs.YtlmgkmmdaecpdaaDoor.Im

namespace Go.Proofs.YtlmgkmmdaecpdaaDoor.Im
open Go.RowKit Go.Proofs.YtlmgkmmdaecpdaaDoorW.PrintWords Go.Proofs.YtlmgkmmdaecpdaaDoorW.PrintLast Go.Proofs.YtlmgkmmdaecpdaaDoorW.PrintMore Go.Proofs.YtlmgkmmdaecpdaaDoor.Mi
set_option linter.unusedVariables false
set_option linter.unusedSimpArgs false
set_option maxHeartbeats 12800000 in
set_option maxRecDepth 100000 in
theorem edges_0 (i j : Nat) (w : World) (hi : i ≤ 20) (hj : j ≤ 20) :
    Calls Tryd.prog 70 #[.agg #[.int .i64 0, .int .i64 (i : Nat), .int .i64 (j : Nat)]] w fun e w' => e = .returned (.agg #[.int .i64 (i : Nat), .int .i64 (j : Nat), .int .i64 ((i : Int) + 1), .int .i64 (j : Nat), .int .i64 (i : Nat), .int .i64 (j : Nat), .int .i64 (i : Nat), .int .i64 ((j : Int) + 1), .int .i64 (i : Nat), .int .i64 ((j : Int) + 1), .int .i64 ((i : Int) + 1), .int .i64 (j : Nat)]) ∧ Below w.heap.size w w' := by
  have HP := Aside0.mk (fun w1 => points_0 i j w1 hi hj)
  have HE0 := Aside0.mk (fun w1 => between_lt (i : Int) (j : Int) ((i : Int) + 1) (j : Int) w1 (cmp_lt (by omega)))
  have HE1 := Aside0.mk (fun w1 => between_lt (i : Int) (j : Int) (i : Int) ((j : Int) + 1) w1 (cmp_lt (by omega)))
  have HE2 := Aside0.mk (fun w1 => between_gt ((i : Int) + 1) (j : Int) (i : Int) ((j : Int) + 1) w1 (cmp_gt (by omega)))
  go_enter Tryd.func70, Tryd.ntmps70
  go_upto_region 1 with fail
  obtain ⟨g, hg⟩ : ∃ g, w.heap.size = g := ⟨_, rfl⟩
  have h1 : Blk ((w.alloc (.cells #[.int .i64 0, .int .i64 (i : Nat), .int .i64 (j : Nat)] 81)).alloc (.cells #[.int .i64 0, .int .i64 0, .int .i64 0, .int .i64 0, .int .i64 0, .int .i64 0, .int .i64 0, .int .i64 0, .int .i64 0, .int .i64 0, .int .i64 0, .int .i64 0] 98)) g 81 #[.int .i64 0, .int .i64 (i : Nat), .int .i64 (j : Nat)] := by rw [← hg]; exact (Blk.new w _ _).alloc _
  have h2 : Blk ((w.alloc (.cells #[.int .i64 0, .int .i64 (i : Nat), .int .i64 (j : Nat)] 81)).alloc (.cells #[.int .i64 0, .int .i64 0, .int .i64 0, .int .i64 0, .int .i64 0, .int .i64 0, .int .i64 0, .int .i64 0, .int .i64 0, .int .i64 0, .int .i64 0, .int .i64 0] 98)) (g + 1) 98 #[.int .i64 0, .int .i64 0, .int .i64 0, .int .i64 0, .int .i64 0, .int .i64 0, .int .i64 0, .int .i64 0, .int .i64 0, .int .i64 0, .int .i64 0, .int .i64 0] := by rw [← hg]; exact Blk.new' (by simp)
  have hb : Below w.heap.size w ((w.alloc (.cells #[.int .i64 0, .int .i64 (i : Nat), .int .i64 (j : Nat)] 81)).alloc (.cells #[.int .i64 0, .int .i64 0, .int .i64 0, .int .i64 0, .int .i64 0, .int .i64 0, .int .i64 0, .int .i64 0, .int .i64 0, .int .i64 0, .int .i64 0, .int .i64 0] 98)) := below_alloc (below_alloc (Below.refl _ _) _) _
  have H2 := Aside0.mk h2
  have HB := Aside0.mk hb
  have HZ : Aside0 (((w.alloc (.cells #[.int .i64 0, .int .i64 (i : Nat), .int .i64 (j : Nat)] 81)).alloc (.cells #[.int .i64 0, .int .i64 0, .int .i64 0, .int .i64 0, .int .i64 0, .int .i64 0, .int .i64 0, .int .i64 0, .int .i64 0, .int .i64 0, .int .i64 0, .int .i64 0] 98)).heap.size = g + 2) := ⟨by simp [hg]⟩
  rw [hg] at HB ⊢
  have c0 := h1.cell 0
  have c1 := h1.cell 1
  have c2 := h1.cell 2
  generalize (w.alloc (.cells #[.int .i64 0, .int .i64 (i : Nat), .int .i64 (j : Nat)] 81)).alloc (.cells #[.int .i64 0, .int .i64 0, .int .i64 0, .int .i64 0, .int .i64 0, .int .i64 0, .int .i64 0, .int .i64 0, .int .i64 0, .int .i64 0, .int .i64 0, .int .i64 0] 98) = W0 at *
  have c0 : W0.cell? ⟨g, 0, none⟩ = some (.int .i64 0) := c0
  have c1 : W0.cell? ⟨g, 1, none⟩ = some (.int .i64 (i : Nat)) := c1
  have c2 : W0.cell? ⟨g, 2, none⟩ = some (.int .i64 (j : Nat)) := c2
  clear h1 h2 hb
  go_wp2_with fail
  refine (HP.out _).mono ?_
  rintro e w1 ⟨rfl, hb1⟩
  have H21 := Aside0.mk (H2.out.later hb1)
  have HB1 := Aside0.mk (HB.out.trans (hb1.mono (show g ≤ W0.heap.size by rw [HZ.out]; omega)))
  have HZ1 : Aside0 (g + 2 ≤ w1.heap.size) := ⟨by rw [← HZ.out]; exact hb1.size⟩
  clear hb1 c0 c1 c2 H2 HB
  go_wp2_with fail
  obtain ⟨gq, hgq⟩ : ∃ gq, w1.heap.size = gq := ⟨_, rfl⟩
  have hb2 : Below w1.heap.size w1 (w1.alloc (.cells #[.int .i64 (i : Nat), .int .i64 (j : Nat), .int .i64 ((i : Int) + 1), .int .i64 (j : Nat), .int .i64 (i : Nat), .int .i64 ((j : Int) + 1)] 118)) := below_alloc (Below.refl _ _) _
  have HQ := Aside0.mk (Blk.new w1 118 #[.int .i64 (i : Nat), .int .i64 (j : Nat), .int .i64 ((i : Int) + 1), .int .i64 (j : Nat), .int .i64 (i : Nat), .int .i64 ((j : Int) + 1)])
  have H22 := Aside0.mk (H21.out.alloc (.cells #[.int .i64 (i : Nat), .int .i64 (j : Nat), .int .i64 ((i : Int) + 1), .int .i64 (j : Nat), .int .i64 (i : Nat), .int .i64 ((j : Int) + 1)] 118))
  have HB2 := Aside0.mk (HB1.out.trans (hb2.mono (show g ≤ w1.heap.size by have := HZ1.out; omega)))
  have HZ2 : Aside0 (g + 2 ≤ gq) := ⟨by rw [← hgq]; exact HZ1.out⟩
  have HZ3 : Aside0 (g + 2 ≤ (w1.alloc (.cells #[.int .i64 (i : Nat), .int .i64 (j : Nat), .int .i64 ((i : Int) + 1), .int .i64 (j : Nat), .int .i64 (i : Nat), .int .i64 ((j : Int) + 1)] 118)).heap.size) := ⟨Nat.le_trans HZ1.out hb2.size⟩
  rw [hgq] at HQ ⊢
  clear hb2 HB1 H21
  generalize w1.alloc (.cells #[.int .i64 (i : Nat), .int .i64 (j : Nat), .int .i64 ((i : Int) + 1), .int .i64 (j : Nat), .int .i64 (i : Nat), .int .i64 ((j : Int) + 1)] 118) = W at *
  have hS : ∀ w', Blk w' gq 118 #[.int .i64 (i : Nat), .int .i64 (j : Nat), .int .i64 ((i : Int) + 1), .int .i64 (j : Nat), .int .i64 (i : Nat), .int .i64 ((j : Int) + 1)] → w'.cell? ⟨gq, 0, none⟩ = some (.int .i64 (i : Nat)) ∧ w'.cell? ⟨gq, 1, none⟩ = some (.int .i64 (j : Nat)) ∧ w'.cell? ⟨gq, 2, none⟩ = some (.int .i64 ((i : Int) + 1)) ∧ w'.cell? ⟨gq, 3, none⟩ = some (.int .i64 (j : Nat)) ∧ w'.cell? ⟨gq, 4, none⟩ = some (.int .i64 (i : Nat)) ∧ w'.cell? ⟨gq, 5, none⟩ = some (.int .i64 ((j : Int) + 1)) := fun w' h1 => ⟨h1.cell 0, h1.cell 1, h1.cell 2, h1.cell 3, h1.cell 4, h1.cell 5⟩
  have k0 := HQ.out.drew
  have r0 := H22.out.drew
  have b0 : Below g w W.drew := below_drew HB2.out
  have z0 : g + 2 ≤ W.drew.heap.size := HZ3.out
  clear HQ H22 HB2
  refine wp_region_held_drew (S := fun w' => w'.cell? ⟨gq, 0, none⟩ = some (.int .i64 (i : Nat)) ∧ w'.cell? ⟨gq, 1, none⟩ = some (.int .i64 (j : Nat)) ∧ w'.cell? ⟨gq, 2, none⟩ = some (.int .i64 ((i : Int) + 1)) ∧ w'.cell? ⟨gq, 3, none⟩ = some (.int .i64 (j : Nat)) ∧ w'.cell? ⟨gq, 4, none⟩ = some (.int .i64 (i : Nat)) ∧ w'.cell? ⟨gq, 5, none⟩ = some (.int .i64 ((j : Int) + 1))) (by kernel_rfl) ?_ (fun hHeld => ?_)
  · exact hS _ k0
  refine wpAnyH_takeL (i := 0) (v := ?_) rfl (by kernel_rfl) (by kernel_rfl) (by kernel_rfl) (fun _ _ _ h => h) (Or.inl ⟨by rfl, ?_⟩) hHeld ?_
  rotate_left
  · intro w hSw
    (try dsimp only at hSw)
    go_simp
    all_goals with_reducible rfl
  try simp only [Act.put, List.setIfInBounds_toArray, List.set_cons_zero, List.set_cons_succ]
  refine wpAnyH_takeL (i := 1) (v := ?_) rfl (by kernel_rfl) (by kernel_rfl) (by kernel_rfl) (fun _ _ _ h => h) (Or.inl ⟨by rfl, ?_⟩) hHeld ?_
  rotate_left
  · intro w hSw
    (try dsimp only at hSw)
    go_simp
    all_goals with_reducible rfl
  try simp only [Act.put, List.setIfInBounds_toArray, List.set_cons_zero, List.set_cons_succ]
  refine wpAnyH_takeL (i := 2) (v := ?_) rfl (by kernel_rfl) (by kernel_rfl) (by kernel_rfl) (fun _ _ _ h => h) (Or.inl ⟨by rfl, ?_⟩) hHeld ?_
  rotate_left
  · intro w hSw
    (try dsimp only at hSw)
    go_simp
    all_goals with_reducible rfl
  try simp only [Act.put, List.setIfInBounds_toArray, List.set_cons_zero, List.set_cons_succ]
  refine wpAnyH_takeL (i := 3) (v := ?_) rfl (by kernel_rfl) (by kernel_rfl) (by kernel_rfl) (fun _ _ _ h => h) (Or.inl ⟨by rfl, ?_⟩) hHeld ?_
  rotate_left
  · intro w hSw
    (try dsimp only at hSw)
    go_simp
    all_goals with_reducible rfl
  try simp only [Act.put, List.setIfInBounds_toArray, List.set_cons_zero, List.set_cons_succ]
  refine wpAnyH_takeL (i := 5) (v := ?_) rfl (by kernel_rfl) (by kernel_rfl) (by kernel_rfl) (fun _ _ _ h => h) (Or.inl ⟨by rfl, ?_⟩) hHeld ?_
  rotate_left
  · intro w hSw
    (try dsimp only at hSw)
    go_simp
    all_goals with_reducible rfl
  try simp only [Act.put, List.setIfInBounds_toArray, List.set_cons_zero, List.set_cons_succ]
  refine wpAnyH_takeL (i := 6) (v := ?_) rfl (by kernel_rfl) (by kernel_rfl) (by kernel_rfl) (fun _ _ _ h => h) (Or.inl ⟨by rfl, ?_⟩) hHeld ?_
  rotate_left
  · intro w hSw
    (try dsimp only at hSw)
    go_simp
    all_goals with_reducible rfl
  try simp only [Act.put, List.setIfInBounds_toArray, List.set_cons_zero, List.set_cons_succ]
  refine wpAnyH_takeL (i := 7) (v := ?_) rfl (by kernel_rfl) (by kernel_rfl) (by kernel_rfl) (fun _ _ _ h => h) (Or.inl ⟨by rfl, ?_⟩) hHeld ?_
  rotate_left
  · intro w hSw
    (try dsimp only at hSw)
    go_simp
    all_goals with_reducible rfl
  try simp only [Act.put, List.setIfInBounds_toArray, List.set_cons_zero, List.set_cons_succ]
  refine wpAnyH_takeL (i := 8) (v := ?_) rfl (by kernel_rfl) (by kernel_rfl) (by kernel_rfl) (fun _ _ _ h => h) (Or.inl ⟨by rfl, ?_⟩) hHeld ?_
  rotate_left
  · intro w hSw
    (try dsimp only at hSw)
    go_simp
    all_goals with_reducible rfl
  try simp only [Act.put, List.setIfInBounds_toArray, List.set_cons_zero, List.set_cons_succ]
  refine wpAnyH_takeL (i := 10) (v := ?_) rfl (by kernel_rfl) (by kernel_rfl) (by kernel_rfl) (fun _ _ _ h => h) (Or.inl ⟨by rfl, ?_⟩) hHeld ?_
  rotate_left
  · intro w hSw
    (try dsimp only at hSw)
    go_simp
    all_goals with_reducible rfl
  try simp only [Act.put, List.setIfInBounds_toArray, List.set_cons_zero, List.set_cons_succ]
  refine wpAnyH_takeL (i := 11) (v := ?_) rfl (by kernel_rfl) (by kernel_rfl) (by kernel_rfl) (fun _ _ _ h => h) (Or.inl ⟨by rfl, ?_⟩) hHeld ?_
  rotate_left
  · intro w hSw
    (try dsimp only at hSw)
    go_simp
    all_goals with_reducible rfl
  try simp only [Act.put, List.setIfInBounds_toArray, List.set_cons_zero, List.set_cons_succ]
  refine wpAnyH_takeL (i := 12) (v := ?_) rfl (by kernel_rfl) (by kernel_rfl) (by kernel_rfl) (fun _ _ _ h => h) (Or.inl ⟨by rfl, ?_⟩) hHeld ?_
  rotate_left
  · intro w hSw
    (try dsimp only at hSw)
    go_simp
    all_goals with_reducible rfl
  try simp only [Act.put, List.setIfInBounds_toArray, List.set_cons_zero, List.set_cons_succ]
  refine wpAnyH_takeL (i := 13) (v := ?_) rfl (by kernel_rfl) (by kernel_rfl) (by kernel_rfl) (fun _ _ _ h => h) (Or.inl ⟨by rfl, ?_⟩) hHeld ?_
  rotate_left
  · intro w hSw
    (try dsimp only at hSw)
    go_simp
    all_goals with_reducible rfl
  try simp only [Act.put, List.setIfInBounds_toArray, List.set_cons_zero, List.set_cons_succ]
  refine wpAnyH_ready (rs := [4]) (by kernel_rfl) (by simp) (AllReadyH.consL rfl (fun K hK => ?_) AllReadyH.nil)
  go_simp
  refine (HE0.out _).mono ?_
  rintro e w2 ⟨rfl, hb⟩
  have k1 := k0.later hb
  have r1 := r0.later hb
  have b1 := b0.trans (hb.mono (show g ≤ _ by have := z0; omega))
  have z1 := Nat.le_trans z0 hb.size
  clear hb
  refine hK.out _ _ ?_ (fun hHeld => ?_)
  · exact hS _ k1
  clear hK K
  try simp only [Act.put, List.setIfInBounds_toArray, List.set_cons_zero, List.set_cons_succ]
  refine wpAnyH_ready (rs := [9]) (by kernel_rfl) (by simp) (AllReadyH.consL rfl (fun K hK => ?_) AllReadyH.nil)
  go_simp
  refine (HE1.out _).mono ?_
  rintro e w3 ⟨rfl, hb⟩
  have k2 := k1.later hb
  have r2 := r1.later hb
  have b2 := b1.trans (hb.mono (show g ≤ _ by have := z1; omega))
  have z2 := Nat.le_trans z1 hb.size
  clear hb
  refine hK.out _ _ ?_ (fun hHeld => ?_)
  · exact hS _ k2
  clear hK K
  try simp only [Act.put, List.setIfInBounds_toArray, List.set_cons_zero, List.set_cons_succ]
  refine wpAnyH_ready (rs := [14]) (by kernel_rfl) (by simp) (AllReadyH.consL rfl (fun K hK => ?_) AllReadyH.nil)
  go_simp
  refine (HE2.out _).mono ?_
  rintro e w4 ⟨rfl, hb⟩
  have k3 := k2.later hb
  have r3 := r2.later hb
  have b3 := b2.trans (hb.mono (show g ≤ _ by have := z2; omega))
  have z3 := Nat.le_trans z2 hb.size
  clear hb
  refine hK.out _ _ ?_ (fun hHeld => ?_)
  · exact hS _ k3
  clear hK K
  try simp only [Act.put, List.setIfInBounds_toArray, List.set_cons_zero, List.set_cons_succ]
  refine wpAnyH_takeL (i := 15) (v := ?_) rfl (by kernel_rfl) (by kernel_rfl) (by kernel_rfl) (fun _ _ _ h => h) (Or.inl ⟨by rfl, ?_⟩) hHeld ?_
  rotate_left
  · intro w hSw
    (try dsimp only at hSw)
    go_simp
    all_goals with_reducible rfl
  try simp only [Act.put, List.setIfInBounds_toArray, List.set_cons_zero, List.set_cons_succ]
  have fr := fun (i : Nat) => r3.frozen i
  have o0 : w4.cell? ⟨g + 1, 0, none⟩ = some (.int .i64 0) := r3.cell 0
  have o1 : w4.cell? ⟨g + 1, 1, none⟩ = some (.int .i64 0) := r3.cell 1
  have o2 : w4.cell? ⟨g + 1, 2, none⟩ = some (.int .i64 0) := r3.cell 2
  have o3 : w4.cell? ⟨g + 1, 3, none⟩ = some (.int .i64 0) := r3.cell 3
  have o4 : w4.cell? ⟨g + 1, 4, none⟩ = some (.int .i64 0) := r3.cell 4
  have o5 : w4.cell? ⟨g + 1, 5, none⟩ = some (.int .i64 0) := r3.cell 5
  have o6 : w4.cell? ⟨g + 1, 6, none⟩ = some (.int .i64 0) := r3.cell 6
  have o7 : w4.cell? ⟨g + 1, 7, none⟩ = some (.int .i64 0) := r3.cell 7
  have o8 : w4.cell? ⟨g + 1, 8, none⟩ = some (.int .i64 0) := r3.cell 8
  have o9 : w4.cell? ⟨g + 1, 9, none⟩ = some (.int .i64 0) := r3.cell 9
  have o10 : w4.cell? ⟨g + 1, 10, none⟩ = some (.int .i64 0) := r3.cell 10
  have o11 : w4.cell? ⟨g + 1, 11, none⟩ = some (.int .i64 0) := r3.cell 11
  have k4 := ((((((((((((k3.far (p := ⟨g + 1, 0, none⟩) (by have := HZ2.out; show gq ≠ g + 1; omega) (.int .i64 (i : Nat))).far (p := ⟨g + 1, 1, none⟩) (by have := HZ2.out; show gq ≠ g + 1; omega) (.int .i64 (j : Nat))).far (p := ⟨g + 1, 2, none⟩) (by have := HZ2.out; show gq ≠ g + 1; omega) (.int .i64 ((i : Int) + 1))).far (p := ⟨g + 1, 3, none⟩) (by have := HZ2.out; show gq ≠ g + 1; omega) (.int .i64 (j : Nat))).far (p := ⟨g + 1, 4, none⟩) (by have := HZ2.out; show gq ≠ g + 1; omega) (.int .i64 (i : Nat))).far (p := ⟨g + 1, 5, none⟩) (by have := HZ2.out; show gq ≠ g + 1; omega) (.int .i64 (j : Nat))).far (p := ⟨g + 1, 6, none⟩) (by have := HZ2.out; show gq ≠ g + 1; omega) (.int .i64 (i : Nat))).far (p := ⟨g + 1, 7, none⟩) (by have := HZ2.out; show gq ≠ g + 1; omega) (.int .i64 ((j : Int) + 1))).far (p := ⟨g + 1, 8, none⟩) (by have := HZ2.out; show gq ≠ g + 1; omega) (.int .i64 (i : Nat))).far (p := ⟨g + 1, 9, none⟩) (by have := HZ2.out; show gq ≠ g + 1; omega) (.int .i64 ((j : Int) + 1))).far (p := ⟨g + 1, 10, none⟩) (by have := HZ2.out; show gq ≠ g + 1; omega) (.int .i64 ((i : Int) + 1))).far (p := ⟨g + 1, 11, none⟩) (by have := HZ2.out; show gq ≠ g + 1; omega) (.int .i64 (j : Nat)))
  have r4 := ((((((((((((r3.set_ 0 (.int .i64 (i : Nat))).set_ 1 (.int .i64 (j : Nat))).set_ 2 (.int .i64 ((i : Int) + 1))).set_ 3 (.int .i64 (j : Nat))).set_ 4 (.int .i64 (i : Nat))).set_ 5 (.int .i64 (j : Nat))).set_ 6 (.int .i64 (i : Nat))).set_ 7 (.int .i64 ((j : Int) + 1))).set_ 8 (.int .i64 (i : Nat))).set_ 9 (.int .i64 ((j : Int) + 1))).set_ 10 (.int .i64 ((i : Int) + 1))).set_ 11 (.int .i64 (j : Nat)))
  have b4 := ((((((((((((b3.setCell (p := ⟨g + 1, 0, none⟩) (Nat.le_succ g) (.int .i64 (i : Nat))).setCell (p := ⟨g + 1, 1, none⟩) (Nat.le_succ g) (.int .i64 (j : Nat))).setCell (p := ⟨g + 1, 2, none⟩) (Nat.le_succ g) (.int .i64 ((i : Int) + 1))).setCell (p := ⟨g + 1, 3, none⟩) (Nat.le_succ g) (.int .i64 (j : Nat))).setCell (p := ⟨g + 1, 4, none⟩) (Nat.le_succ g) (.int .i64 (i : Nat))).setCell (p := ⟨g + 1, 5, none⟩) (Nat.le_succ g) (.int .i64 (j : Nat))).setCell (p := ⟨g + 1, 6, none⟩) (Nat.le_succ g) (.int .i64 (i : Nat))).setCell (p := ⟨g + 1, 7, none⟩) (Nat.le_succ g) (.int .i64 ((j : Int) + 1))).setCell (p := ⟨g + 1, 8, none⟩) (Nat.le_succ g) (.int .i64 (i : Nat))).setCell (p := ⟨g + 1, 9, none⟩) (Nat.le_succ g) (.int .i64 ((j : Int) + 1))).setCell (p := ⟨g + 1, 10, none⟩) (Nat.le_succ g) (.int .i64 ((i : Int) + 1))).setCell (p := ⟨g + 1, 11, none⟩) (Nat.le_succ g) (.int .i64 (j : Nat)))
  obtain ⟨W5, e5⟩ : ∃ W5, ((((((((((((w4.setCell ⟨g + 1, 0, none⟩ (.int .i64 (i : Nat))).setCell ⟨g + 1, 1, none⟩ (.int .i64 (j : Nat))).setCell ⟨g + 1, 2, none⟩ (.int .i64 ((i : Int) + 1))).setCell ⟨g + 1, 3, none⟩ (.int .i64 (j : Nat))).setCell ⟨g + 1, 4, none⟩ (.int .i64 (i : Nat))).setCell ⟨g + 1, 5, none⟩ (.int .i64 (j : Nat))).setCell ⟨g + 1, 6, none⟩ (.int .i64 (i : Nat))).setCell ⟨g + 1, 7, none⟩ (.int .i64 ((j : Int) + 1))).setCell ⟨g + 1, 8, none⟩ (.int .i64 (i : Nat))).setCell ⟨g + 1, 9, none⟩ (.int .i64 ((j : Int) + 1))).setCell ⟨g + 1, 10, none⟩ (.int .i64 ((i : Int) + 1))).setCell ⟨g + 1, 11, none⟩ (.int .i64 (j : Nat))) = W5 := ⟨_, rfl⟩
  rw [e5] at k4 r4 b4
  simp only [List.setIfInBounds_toArray, List.set_cons_zero, List.set_cons_succ] at r4
  refine wpAnyH_ready (rs := [16]) (by kernel_rfl) (by simp) (AllReadyH.consL rfl (fun K hK => ?_) AllReadyH.nil)
  go_simp
  try rw [e5]
  refine hK.out _ _ ?_ (fun hHeld => ?_)
  · exact hS _ k4
  clear hK K
  try simp only [Act.put, List.setIfInBounds_toArray, List.set_cons_zero, List.set_cons_succ]
  clear e5 k0 k1 k2 k3 r0 r1 r2 r3 b0 b1 b2 b3 z0 z1 z2 z3 fr hHeld hS
  clear o0 o1 o2 o3 o4 o5 o6 o7 o8 o9 o10 o11
  refine wpAnyH_done (by kernel_rfl) ?_ _
  go_wp2_with fail
  refine bodyPost_ret (results_cell_row rfl _ _ (g + 1) 98 #[.int .i64 (i : Nat), .int .i64 (j : Nat), .int .i64 ((i : Int) + 1), .int .i64 (j : Nat), .int .i64 (i : Nat), .int .i64 (j : Nat), .int .i64 (i : Nat), .int .i64 ((j : Int) + 1), .int .i64 (i : Nat), .int .i64 ((j : Int) + 1), .int .i64 ((i : Int) + 1), .int .i64 (j : Nat)] (0, 0) _ rfl r4 Tryd.underlying98 rfl (by kernel_rfl)) rfl ?_
  exact ⟨rfl, hg ▸ b4⟩
set_option maxHeartbeats 12800000 in
set_option maxRecDepth 100000 in
theorem edges_1 (i j : Nat) (w : World) (hi : i ≤ 20) (hj : j ≤ 20) :
    Calls Tryd.prog 70 #[.agg #[.int .i64 1, .int .i64 (i : Nat), .int .i64 (j : Nat)]] w fun e w' => e = .returned (.agg #[.int .i64 (i : Nat), .int .i64 ((j : Int) + 1), .int .i64 ((i : Int) + 1), .int .i64 (j : Nat), .int .i64 ((i : Int) + 1), .int .i64 (j : Nat), .int .i64 ((i : Int) + 1), .int .i64 ((j : Int) + 1), .int .i64 (i : Nat), .int .i64 ((j : Int) + 1), .int .i64 ((i : Int) + 1), .int .i64 ((j : Int) + 1)]) ∧ Below w.heap.size w w' := by
  have HP := Aside0.mk (fun w1 => points_1 i j w1 hi hj)
  have HE0 := Aside0.mk (fun w1 => between_gt ((i : Int) + 1) (j : Int) (i : Int) ((j : Int) + 1) w1 (cmp_gt (by omega)))
  have HE1 := Aside0.mk (fun w1 => between_lt ((i : Int) + 1) (j : Int) ((i : Int) + 1) ((j : Int) + 1) w1 (cmp_lt (by omega)))
  have HE2 := Aside0.mk (fun w1 => between_lt (i : Int) ((j : Int) + 1) ((i : Int) + 1) ((j : Int) + 1) w1 (cmp_lt (by omega)))
  go_enter Tryd.func70, Tryd.ntmps70
  go_upto_region 1 with fail
  obtain ⟨g, hg⟩ : ∃ g, w.heap.size = g := ⟨_, rfl⟩
  have h1 : Blk ((w.alloc (.cells #[.int .i64 1, .int .i64 (i : Nat), .int .i64 (j : Nat)] 81)).alloc (.cells #[.int .i64 0, .int .i64 0, .int .i64 0, .int .i64 0, .int .i64 0, .int .i64 0, .int .i64 0, .int .i64 0, .int .i64 0, .int .i64 0, .int .i64 0, .int .i64 0] 98)) g 81 #[.int .i64 1, .int .i64 (i : Nat), .int .i64 (j : Nat)] := by rw [← hg]; exact (Blk.new w _ _).alloc _
  have h2 : Blk ((w.alloc (.cells #[.int .i64 1, .int .i64 (i : Nat), .int .i64 (j : Nat)] 81)).alloc (.cells #[.int .i64 0, .int .i64 0, .int .i64 0, .int .i64 0, .int .i64 0, .int .i64 0, .int .i64 0, .int .i64 0, .int .i64 0, .int .i64 0, .int .i64 0, .int .i64 0] 98)) (g + 1) 98 #[.int .i64 0, .int .i64 0, .int .i64 0, .int .i64 0, .int .i64 0, .int .i64 0, .int .i64 0, .int .i64 0, .int .i64 0, .int .i64 0, .int .i64 0, .int .i64 0] := by rw [← hg]; exact Blk.new' (by simp)
  have hb : Below w.heap.size w ((w.alloc (.cells #[.int .i64 1, .int .i64 (i : Nat), .int .i64 (j : Nat)] 81)).alloc (.cells #[.int .i64 0, .int .i64 0, .int .i64 0, .int .i64 0, .int .i64 0, .int .i64 0, .int .i64 0, .int .i64 0, .int .i64 0, .int .i64 0, .int .i64 0, .int .i64 0] 98)) := below_alloc (below_alloc (Below.refl _ _) _) _
  have H2 := Aside0.mk h2
  have HB := Aside0.mk hb
  have HZ : Aside0 (((w.alloc (.cells #[.int .i64 1, .int .i64 (i : Nat), .int .i64 (j : Nat)] 81)).alloc (.cells #[.int .i64 0, .int .i64 0, .int .i64 0, .int .i64 0, .int .i64 0, .int .i64 0, .int .i64 0, .int .i64 0, .int .i64 0, .int .i64 0, .int .i64 0, .int .i64 0] 98)).heap.size = g + 2) := ⟨by simp [hg]⟩
  rw [hg] at HB ⊢
  have c0 := h1.cell 0
  have c1 := h1.cell 1
  have c2 := h1.cell 2
  generalize (w.alloc (.cells #[.int .i64 1, .int .i64 (i : Nat), .int .i64 (j : Nat)] 81)).alloc (.cells #[.int .i64 0, .int .i64 0, .int .i64 0, .int .i64 0, .int .i64 0, .int .i64 0, .int .i64 0, .int .i64 0, .int .i64 0, .int .i64 0, .int .i64 0, .int .i64 0] 98) = W0 at *
  have c0 : W0.cell? ⟨g, 0, none⟩ = some (.int .i64 1) := c0
  have c1 : W0.cell? ⟨g, 1, none⟩ = some (.int .i64 (i : Nat)) := c1
  have c2 : W0.cell? ⟨g, 2, none⟩ = some (.int .i64 (j : Nat)) := c2
  clear h1 h2 hb
  go_wp2_with fail
  refine (HP.out _).mono ?_
  rintro e w1 ⟨rfl, hb1⟩
  have H21 := Aside0.mk (H2.out.later hb1)
  have HB1 := Aside0.mk (HB.out.trans (hb1.mono (show g ≤ W0.heap.size by rw [HZ.out]; omega)))
  have HZ1 : Aside0 (g + 2 ≤ w1.heap.size) := ⟨by rw [← HZ.out]; exact hb1.size⟩
  clear hb1 c0 c1 c2 H2 HB
  go_wp2_with fail
  obtain ⟨gq, hgq⟩ : ∃ gq, w1.heap.size = gq := ⟨_, rfl⟩
  have hb2 : Below w1.heap.size w1 (w1.alloc (.cells #[.int .i64 ((i : Int) + 1), .int .i64 (j : Nat), .int .i64 (i : Nat), .int .i64 ((j : Int) + 1), .int .i64 ((i : Int) + 1), .int .i64 ((j : Int) + 1)] 118)) := below_alloc (Below.refl _ _) _
  have HQ := Aside0.mk (Blk.new w1 118 #[.int .i64 ((i : Int) + 1), .int .i64 (j : Nat), .int .i64 (i : Nat), .int .i64 ((j : Int) + 1), .int .i64 ((i : Int) + 1), .int .i64 ((j : Int) + 1)])
  have H22 := Aside0.mk (H21.out.alloc (.cells #[.int .i64 ((i : Int) + 1), .int .i64 (j : Nat), .int .i64 (i : Nat), .int .i64 ((j : Int) + 1), .int .i64 ((i : Int) + 1), .int .i64 ((j : Int) + 1)] 118))
  have HB2 := Aside0.mk (HB1.out.trans (hb2.mono (show g ≤ w1.heap.size by have := HZ1.out; omega)))
  have HZ2 : Aside0 (g + 2 ≤ gq) := ⟨by rw [← hgq]; exact HZ1.out⟩
  have HZ3 : Aside0 (g + 2 ≤ (w1.alloc (.cells #[.int .i64 ((i : Int) + 1), .int .i64 (j : Nat), .int .i64 (i : Nat), .int .i64 ((j : Int) + 1), .int .i64 ((i : Int) + 1), .int .i64 ((j : Int) + 1)] 118)).heap.size) := ⟨Nat.le_trans HZ1.out hb2.size⟩
  rw [hgq] at HQ ⊢
  clear hb2 HB1 H21
  generalize w1.alloc (.cells #[.int .i64 ((i : Int) + 1), .int .i64 (j : Nat), .int .i64 (i : Nat), .int .i64 ((j : Int) + 1), .int .i64 ((i : Int) + 1), .int .i64 ((j : Int) + 1)] 118) = W at *
  have hS : ∀ w', Blk w' gq 118 #[.int .i64 ((i : Int) + 1), .int .i64 (j : Nat), .int .i64 (i : Nat), .int .i64 ((j : Int) + 1), .int .i64 ((i : Int) + 1), .int .i64 ((j : Int) + 1)] → w'.cell? ⟨gq, 0, none⟩ = some (.int .i64 ((i : Int) + 1)) ∧ w'.cell? ⟨gq, 1, none⟩ = some (.int .i64 (j : Nat)) ∧ w'.cell? ⟨gq, 2, none⟩ = some (.int .i64 (i : Nat)) ∧ w'.cell? ⟨gq, 3, none⟩ = some (.int .i64 ((j : Int) + 1)) ∧ w'.cell? ⟨gq, 4, none⟩ = some (.int .i64 ((i : Int) + 1)) ∧ w'.cell? ⟨gq, 5, none⟩ = some (.int .i64 ((j : Int) + 1)) := fun w' h1 => ⟨h1.cell 0, h1.cell 1, h1.cell 2, h1.cell 3, h1.cell 4, h1.cell 5⟩
  have k0 := HQ.out.drew
  have r0 := H22.out.drew
  have b0 : Below g w W.drew := below_drew HB2.out
  have z0 : g + 2 ≤ W.drew.heap.size := HZ3.out
  clear HQ H22 HB2
  refine wp_region_held_drew (S := fun w' => w'.cell? ⟨gq, 0, none⟩ = some (.int .i64 ((i : Int) + 1)) ∧ w'.cell? ⟨gq, 1, none⟩ = some (.int .i64 (j : Nat)) ∧ w'.cell? ⟨gq, 2, none⟩ = some (.int .i64 (i : Nat)) ∧ w'.cell? ⟨gq, 3, none⟩ = some (.int .i64 ((j : Int) + 1)) ∧ w'.cell? ⟨gq, 4, none⟩ = some (.int .i64 ((i : Int) + 1)) ∧ w'.cell? ⟨gq, 5, none⟩ = some (.int .i64 ((j : Int) + 1))) (by kernel_rfl) ?_ (fun hHeld => ?_)
  · exact hS _ k0
  refine wpAnyH_takeL (i := 0) (v := ?_) rfl (by kernel_rfl) (by kernel_rfl) (by kernel_rfl) (fun _ _ _ h => h) (Or.inl ⟨by rfl, ?_⟩) hHeld ?_
  rotate_left
  · intro w hSw
    (try dsimp only at hSw)
    go_simp
    all_goals with_reducible rfl
  try simp only [Act.put, List.setIfInBounds_toArray, List.set_cons_zero, List.set_cons_succ]
  refine wpAnyH_takeL (i := 1) (v := ?_) rfl (by kernel_rfl) (by kernel_rfl) (by kernel_rfl) (fun _ _ _ h => h) (Or.inl ⟨by rfl, ?_⟩) hHeld ?_
  rotate_left
  · intro w hSw
    (try dsimp only at hSw)
    go_simp
    all_goals with_reducible rfl
  try simp only [Act.put, List.setIfInBounds_toArray, List.set_cons_zero, List.set_cons_succ]
  refine wpAnyH_takeL (i := 2) (v := ?_) rfl (by kernel_rfl) (by kernel_rfl) (by kernel_rfl) (fun _ _ _ h => h) (Or.inl ⟨by rfl, ?_⟩) hHeld ?_
  rotate_left
  · intro w hSw
    (try dsimp only at hSw)
    go_simp
    all_goals with_reducible rfl
  try simp only [Act.put, List.setIfInBounds_toArray, List.set_cons_zero, List.set_cons_succ]
  refine wpAnyH_takeL (i := 3) (v := ?_) rfl (by kernel_rfl) (by kernel_rfl) (by kernel_rfl) (fun _ _ _ h => h) (Or.inl ⟨by rfl, ?_⟩) hHeld ?_
  rotate_left
  · intro w hSw
    (try dsimp only at hSw)
    go_simp
    all_goals with_reducible rfl
  try simp only [Act.put, List.setIfInBounds_toArray, List.set_cons_zero, List.set_cons_succ]
  refine wpAnyH_takeL (i := 5) (v := ?_) rfl (by kernel_rfl) (by kernel_rfl) (by kernel_rfl) (fun _ _ _ h => h) (Or.inl ⟨by rfl, ?_⟩) hHeld ?_
  rotate_left
  · intro w hSw
    (try dsimp only at hSw)
    go_simp
    all_goals with_reducible rfl
  try simp only [Act.put, List.setIfInBounds_toArray, List.set_cons_zero, List.set_cons_succ]
  refine wpAnyH_takeL (i := 6) (v := ?_) rfl (by kernel_rfl) (by kernel_rfl) (by kernel_rfl) (fun _ _ _ h => h) (Or.inl ⟨by rfl, ?_⟩) hHeld ?_
  rotate_left
  · intro w hSw
    (try dsimp only at hSw)
    go_simp
    all_goals with_reducible rfl
  try simp only [Act.put, List.setIfInBounds_toArray, List.set_cons_zero, List.set_cons_succ]
  refine wpAnyH_takeL (i := 7) (v := ?_) rfl (by kernel_rfl) (by kernel_rfl) (by kernel_rfl) (fun _ _ _ h => h) (Or.inl ⟨by rfl, ?_⟩) hHeld ?_
  rotate_left
  · intro w hSw
    (try dsimp only at hSw)
    go_simp
    all_goals with_reducible rfl
  try simp only [Act.put, List.setIfInBounds_toArray, List.set_cons_zero, List.set_cons_succ]
  refine wpAnyH_takeL (i := 8) (v := ?_) rfl (by kernel_rfl) (by kernel_rfl) (by kernel_rfl) (fun _ _ _ h => h) (Or.inl ⟨by rfl, ?_⟩) hHeld ?_
  rotate_left
  · intro w hSw
    (try dsimp only at hSw)
    go_simp
    all_goals with_reducible rfl
  try simp only [Act.put, List.setIfInBounds_toArray, List.set_cons_zero, List.set_cons_succ]
  refine wpAnyH_takeL (i := 10) (v := ?_) rfl (by kernel_rfl) (by kernel_rfl) (by kernel_rfl) (fun _ _ _ h => h) (Or.inl ⟨by rfl, ?_⟩) hHeld ?_
  rotate_left
  · intro w hSw
    (try dsimp only at hSw)
    go_simp
    all_goals with_reducible rfl
  try simp only [Act.put, List.setIfInBounds_toArray, List.set_cons_zero, List.set_cons_succ]
  refine wpAnyH_takeL (i := 11) (v := ?_) rfl (by kernel_rfl) (by kernel_rfl) (by kernel_rfl) (fun _ _ _ h => h) (Or.inl ⟨by rfl, ?_⟩) hHeld ?_
  rotate_left
  · intro w hSw
    (try dsimp only at hSw)
    go_simp
    all_goals with_reducible rfl
  try simp only [Act.put, List.setIfInBounds_toArray, List.set_cons_zero, List.set_cons_succ]
  refine wpAnyH_takeL (i := 12) (v := ?_) rfl (by kernel_rfl) (by kernel_rfl) (by kernel_rfl) (fun _ _ _ h => h) (Or.inl ⟨by rfl, ?_⟩) hHeld ?_
  rotate_left
  · intro w hSw
    (try dsimp only at hSw)
    go_simp
    all_goals with_reducible rfl
  try simp only [Act.put, List.setIfInBounds_toArray, List.set_cons_zero, List.set_cons_succ]
  refine wpAnyH_takeL (i := 13) (v := ?_) rfl (by kernel_rfl) (by kernel_rfl) (by kernel_rfl) (fun _ _ _ h => h) (Or.inl ⟨by rfl, ?_⟩) hHeld ?_
  rotate_left
  · intro w hSw
    (try dsimp only at hSw)
    go_simp
    all_goals with_reducible rfl
  try simp only [Act.put, List.setIfInBounds_toArray, List.set_cons_zero, List.set_cons_succ]
  refine wpAnyH_ready (rs := [4]) (by kernel_rfl) (by simp) (AllReadyH.consL rfl (fun K hK => ?_) AllReadyH.nil)
  go_simp
  refine (HE0.out _).mono ?_
  rintro e w2 ⟨rfl, hb⟩
  have k1 := k0.later hb
  have r1 := r0.later hb
  have b1 := b0.trans (hb.mono (show g ≤ _ by have := z0; omega))
  have z1 := Nat.le_trans z0 hb.size
  clear hb
  refine hK.out _ _ ?_ (fun hHeld => ?_)
  · exact hS _ k1
  clear hK K
  try simp only [Act.put, List.setIfInBounds_toArray, List.set_cons_zero, List.set_cons_succ]
  refine wpAnyH_ready (rs := [9]) (by kernel_rfl) (by simp) (AllReadyH.consL rfl (fun K hK => ?_) AllReadyH.nil)
  go_simp
  refine (HE1.out _).mono ?_
  rintro e w3 ⟨rfl, hb⟩
  have k2 := k1.later hb
  have r2 := r1.later hb
  have b2 := b1.trans (hb.mono (show g ≤ _ by have := z1; omega))
  have z2 := Nat.le_trans z1 hb.size
  clear hb
  refine hK.out _ _ ?_ (fun hHeld => ?_)
  · exact hS _ k2
  clear hK K
  try simp only [Act.put, List.setIfInBounds_toArray, List.set_cons_zero, List.set_cons_succ]
  refine wpAnyH_ready (rs := [14]) (by kernel_rfl) (by simp) (AllReadyH.consL rfl (fun K hK => ?_) AllReadyH.nil)
  go_simp
  refine (HE2.out _).mono ?_
  rintro e w4 ⟨rfl, hb⟩
  have k3 := k2.later hb
  have r3 := r2.later hb
  have b3 := b2.trans (hb.mono (show g ≤ _ by have := z2; omega))
  have z3 := Nat.le_trans z2 hb.size
  clear hb
  refine hK.out _ _ ?_ (fun hHeld => ?_)
  · exact hS _ k3
  clear hK K
  try simp only [Act.put, List.setIfInBounds_toArray, List.set_cons_zero, List.set_cons_succ]
  refine wpAnyH_takeL (i := 15) (v := ?_) rfl (by kernel_rfl) (by kernel_rfl) (by kernel_rfl) (fun _ _ _ h => h) (Or.inl ⟨by rfl, ?_⟩) hHeld ?_
  rotate_left
  · intro w hSw
    (try dsimp only at hSw)
    go_simp
    all_goals with_reducible rfl
  try simp only [Act.put, List.setIfInBounds_toArray, List.set_cons_zero, List.set_cons_succ]
  have fr := fun (i : Nat) => r3.frozen i
  have o0 : w4.cell? ⟨g + 1, 0, none⟩ = some (.int .i64 0) := r3.cell 0
  have o1 : w4.cell? ⟨g + 1, 1, none⟩ = some (.int .i64 0) := r3.cell 1
  have o2 : w4.cell? ⟨g + 1, 2, none⟩ = some (.int .i64 0) := r3.cell 2
  have o3 : w4.cell? ⟨g + 1, 3, none⟩ = some (.int .i64 0) := r3.cell 3
  have o4 : w4.cell? ⟨g + 1, 4, none⟩ = some (.int .i64 0) := r3.cell 4
  have o5 : w4.cell? ⟨g + 1, 5, none⟩ = some (.int .i64 0) := r3.cell 5
  have o6 : w4.cell? ⟨g + 1, 6, none⟩ = some (.int .i64 0) := r3.cell 6
  have o7 : w4.cell? ⟨g + 1, 7, none⟩ = some (.int .i64 0) := r3.cell 7
  have o8 : w4.cell? ⟨g + 1, 8, none⟩ = some (.int .i64 0) := r3.cell 8
  have o9 : w4.cell? ⟨g + 1, 9, none⟩ = some (.int .i64 0) := r3.cell 9
  have o10 : w4.cell? ⟨g + 1, 10, none⟩ = some (.int .i64 0) := r3.cell 10
  have o11 : w4.cell? ⟨g + 1, 11, none⟩ = some (.int .i64 0) := r3.cell 11
  have k4 := ((((((((((((k3.far (p := ⟨g + 1, 0, none⟩) (by have := HZ2.out; show gq ≠ g + 1; omega) (.int .i64 (i : Nat))).far (p := ⟨g + 1, 1, none⟩) (by have := HZ2.out; show gq ≠ g + 1; omega) (.int .i64 ((j : Int) + 1))).far (p := ⟨g + 1, 2, none⟩) (by have := HZ2.out; show gq ≠ g + 1; omega) (.int .i64 ((i : Int) + 1))).far (p := ⟨g + 1, 3, none⟩) (by have := HZ2.out; show gq ≠ g + 1; omega) (.int .i64 (j : Nat))).far (p := ⟨g + 1, 4, none⟩) (by have := HZ2.out; show gq ≠ g + 1; omega) (.int .i64 ((i : Int) + 1))).far (p := ⟨g + 1, 5, none⟩) (by have := HZ2.out; show gq ≠ g + 1; omega) (.int .i64 (j : Nat))).far (p := ⟨g + 1, 6, none⟩) (by have := HZ2.out; show gq ≠ g + 1; omega) (.int .i64 ((i : Int) + 1))).far (p := ⟨g + 1, 7, none⟩) (by have := HZ2.out; show gq ≠ g + 1; omega) (.int .i64 ((j : Int) + 1))).far (p := ⟨g + 1, 8, none⟩) (by have := HZ2.out; show gq ≠ g + 1; omega) (.int .i64 (i : Nat))).far (p := ⟨g + 1, 9, none⟩) (by have := HZ2.out; show gq ≠ g + 1; omega) (.int .i64 ((j : Int) + 1))).far (p := ⟨g + 1, 10, none⟩) (by have := HZ2.out; show gq ≠ g + 1; omega) (.int .i64 ((i : Int) + 1))).far (p := ⟨g + 1, 11, none⟩) (by have := HZ2.out; show gq ≠ g + 1; omega) (.int .i64 ((j : Int) + 1)))
  have r4 := ((((((((((((r3.set_ 0 (.int .i64 (i : Nat))).set_ 1 (.int .i64 ((j : Int) + 1))).set_ 2 (.int .i64 ((i : Int) + 1))).set_ 3 (.int .i64 (j : Nat))).set_ 4 (.int .i64 ((i : Int) + 1))).set_ 5 (.int .i64 (j : Nat))).set_ 6 (.int .i64 ((i : Int) + 1))).set_ 7 (.int .i64 ((j : Int) + 1))).set_ 8 (.int .i64 (i : Nat))).set_ 9 (.int .i64 ((j : Int) + 1))).set_ 10 (.int .i64 ((i : Int) + 1))).set_ 11 (.int .i64 ((j : Int) + 1)))
  have b4 := ((((((((((((b3.setCell (p := ⟨g + 1, 0, none⟩) (Nat.le_succ g) (.int .i64 (i : Nat))).setCell (p := ⟨g + 1, 1, none⟩) (Nat.le_succ g) (.int .i64 ((j : Int) + 1))).setCell (p := ⟨g + 1, 2, none⟩) (Nat.le_succ g) (.int .i64 ((i : Int) + 1))).setCell (p := ⟨g + 1, 3, none⟩) (Nat.le_succ g) (.int .i64 (j : Nat))).setCell (p := ⟨g + 1, 4, none⟩) (Nat.le_succ g) (.int .i64 ((i : Int) + 1))).setCell (p := ⟨g + 1, 5, none⟩) (Nat.le_succ g) (.int .i64 (j : Nat))).setCell (p := ⟨g + 1, 6, none⟩) (Nat.le_succ g) (.int .i64 ((i : Int) + 1))).setCell (p := ⟨g + 1, 7, none⟩) (Nat.le_succ g) (.int .i64 ((j : Int) + 1))).setCell (p := ⟨g + 1, 8, none⟩) (Nat.le_succ g) (.int .i64 (i : Nat))).setCell (p := ⟨g + 1, 9, none⟩) (Nat.le_succ g) (.int .i64 ((j : Int) + 1))).setCell (p := ⟨g + 1, 10, none⟩) (Nat.le_succ g) (.int .i64 ((i : Int) + 1))).setCell (p := ⟨g + 1, 11, none⟩) (Nat.le_succ g) (.int .i64 ((j : Int) + 1)))
  obtain ⟨W5, e5⟩ : ∃ W5, ((((((((((((w4.setCell ⟨g + 1, 0, none⟩ (.int .i64 (i : Nat))).setCell ⟨g + 1, 1, none⟩ (.int .i64 ((j : Int) + 1))).setCell ⟨g + 1, 2, none⟩ (.int .i64 ((i : Int) + 1))).setCell ⟨g + 1, 3, none⟩ (.int .i64 (j : Nat))).setCell ⟨g + 1, 4, none⟩ (.int .i64 ((i : Int) + 1))).setCell ⟨g + 1, 5, none⟩ (.int .i64 (j : Nat))).setCell ⟨g + 1, 6, none⟩ (.int .i64 ((i : Int) + 1))).setCell ⟨g + 1, 7, none⟩ (.int .i64 ((j : Int) + 1))).setCell ⟨g + 1, 8, none⟩ (.int .i64 (i : Nat))).setCell ⟨g + 1, 9, none⟩ (.int .i64 ((j : Int) + 1))).setCell ⟨g + 1, 10, none⟩ (.int .i64 ((i : Int) + 1))).setCell ⟨g + 1, 11, none⟩ (.int .i64 ((j : Int) + 1))) = W5 := ⟨_, rfl⟩
  rw [e5] at k4 r4 b4
  simp only [List.setIfInBounds_toArray, List.set_cons_zero, List.set_cons_succ] at r4
  refine wpAnyH_ready (rs := [16]) (by kernel_rfl) (by simp) (AllReadyH.consL rfl (fun K hK => ?_) AllReadyH.nil)
  go_simp
  try rw [e5]
  refine hK.out _ _ ?_ (fun hHeld => ?_)
  · exact hS _ k4
  clear hK K
  try simp only [Act.put, List.setIfInBounds_toArray, List.set_cons_zero, List.set_cons_succ]
  clear e5 k0 k1 k2 k3 r0 r1 r2 r3 b0 b1 b2 b3 z0 z1 z2 z3 fr hHeld hS
  clear o0 o1 o2 o3 o4 o5 o6 o7 o8 o9 o10 o11
  refine wpAnyH_done (by kernel_rfl) ?_ _
  go_wp2_with fail
  refine bodyPost_ret (results_cell_row rfl _ _ (g + 1) 98 #[.int .i64 (i : Nat), .int .i64 ((j : Int) + 1), .int .i64 ((i : Int) + 1), .int .i64 (j : Nat), .int .i64 ((i : Int) + 1), .int .i64 (j : Nat), .int .i64 ((i : Int) + 1), .int .i64 ((j : Int) + 1), .int .i64 (i : Nat), .int .i64 ((j : Int) + 1), .int .i64 ((i : Int) + 1), .int .i64 ((j : Int) + 1)] (0, 0) _ rfl r4 Tryd.underlying98 rfl (by kernel_rfl)) rfl ?_
  exact ⟨rfl, hg ▸ b4⟩
end Go.Proofs.YtlmgkmmdaecpdaaDoor.Im

namespace Go.Proofs.YtlmgkmmdaecpdaaDoor.Im
open Go.RowKit Go.Proofs.YtlmgkmmdaecpdaaDoorW.PrintWords Go.Proofs.YtlmgkmmdaecpdaaDoorW.PrintLast Go.Proofs.YtlmgkmmdaecpdaaDoorW.PrintMore Go.Proofs.YtlmgkmmdaecpdaaDoor.Mi
set_option linter.unusedVariables false
set_option linter.unusedSimpArgs false
theorem door_fin : ∀ x ∈ three, ∀ y ∈ three, ((((x.toNat : Nat) : Int) != ((y.toNat : Nat) : Int)) && (((x.toNat : Nat) : Int) != 50) && (((y.toNat : Nat) : Int) != 50)) = isD (x.toNat - 48) (y.toNat - 48) := by decide +kernel
theorem tri_col {w : World} {g n mb m : Nat} {l : List UInt8} {D : DataW Unit} (h : Tri w g n mb m l D) : Col n l := ⟨h.n1, h.n20, h.len, h.ok⟩
set_option maxHeartbeats 6400000 in
set_option maxRecDepth 100000 in
theorem door_any (g n mb m : Nat) (l : List UInt8) (D : DataW Unit) (a b c d : Nat) (w : World) (ht : Tri w g n mb m l D) (hab : a + b ≤ n) (hcd : c + d ≤ n) :
    Calls Tryd.prog 71 #[.pointer (some ⟨g, 0, none⟩), .agg #[.int .i64 (a : Nat), .int .i64 (b : Nat), .int .i64 (c : Nat), .int .i64 (d : Nat)]] w fun e w' => e = .returned (.bool (isD (cC n l a b) (cC n l c d))) ∧ Below w.heap.size w w' := by
  have hcol := tri_col ht
  have hfin := door_fin _ (mem_three (hcol.byte hab)) _ (mem_three (hcol.byte hcd))
  have HT := Aside0.mk ht
  have HR : Aside0 (isD (cC n l a b) (cC n l c d) = isD ((colB n l a b).toNat - 48) ((colB n l c d).toNat - 48)) := ⟨rfl⟩
  have HLk := Aside0.mk (fun (W : World) (hb : Below w.heap.size w W) (k : Nat) => tri_look (ht.later (pw_below_drewN hb k)) hab)
  have HLk2 := Aside0.mk (fun (W : World) (hb : Below w.heap.size w W) (k : Nat) => tri_look (ht.later (pw_below_drewN hb k)) hcd)
  obtain ⟨X, hX⟩ : ∃ X : Int, ((colB n l a b).toNat : Int) = X := ⟨_, rfl⟩
  obtain ⟨Y, hY⟩ : ∃ Y : Int, ((colB n l c d).toNat : Int) = Y := ⟨_, rfl⟩
  rw [hX] at HLk
  rw [hY] at HLk2
  rw [hX, hY] at hfin
  obtain ⟨b1, h1⟩ : ∃ b, (X != Y) = b := ⟨_, rfl⟩
  obtain ⟨b2, h2⟩ : ∃ b, (X != 50) = b := ⟨_, rfl⟩
  obtain ⟨b3, h3⟩ : ∃ b, (Y != 50) = b := ⟨_, rfl⟩
  rw [h1, h2, h3] at hfin
  rw [HR.out, ← hfin]
  clear ht hfin hX hY hcol hab hcd HR
  cases b1 <;> cases b2 <;> cases b3
  all_goals
    go_enter Tryd.func71, Tryd.ntmps71
    go_wp2_with fail
    obtain ⟨gq, hgq⟩ : ∃ gq, w.heap.size = gq := ⟨_, rfl⟩
    have hb0 : Below w.heap.size w (w.alloc (.cells #[.int .i64 (a : Nat), .int .i64 (b : Nat), .int .i64 (c : Nat), .int .i64 (d : Nat)] 97)) := below_alloc (Below.refl _ _) _
    have hq := Blk.new w 97 #[.int .i64 (a : Nat), .int .i64 (b : Nat), .int .i64 (c : Nat), .int .i64 (d : Nat)]
    have HB := Aside0.mk hb0
    rw [hgq] at hq ⊢
    generalize w.alloc (.cells #[.int .i64 (a : Nat), .int .i64 (b : Nat), .int .i64 (c : Nat), .int .i64 (d : Nat)] 97) = W at *
    have l0 := HLk.out W HB.out
    have l1 := HLk2.out W HB.out
    have e1 : W.cell? ⟨g, 1, none⟩ = some (.map (some mb)) := (HT.out.later HB.out).hd.cell 1
    have c0 : W.cell? ⟨gq, 0, none⟩ = some (.int .i64 (a : Nat)) := hq.cell 0
    have c1 : W.cell? ⟨gq, 1, none⟩ = some (.int .i64 (b : Nat)) := hq.cell 1
    have c2 : W.cell? ⟨gq, 2, none⟩ = some (.int .i64 (c : Nat)) := hq.cell 2
    have c3 : W.cell? ⟨gq, 3, none⟩ = some (.int .i64 (d : Nat)) := hq.cell 3
    clear hb0 hq
    go_quiet (fail)
    go_wp2_with fail
    go_ret
    exact ⟨rfl, hgq ▸ pw_below_drewN HB.out nq⟩
end Go.Proofs.YtlmgkmmdaecpdaaDoor.Im

namespace Go.Proofs.YtlmgkmmdaecpdaaDoor.Mi
set_option linter.unusedVariables false
def stS (i : Nat) : Tri3 × Tri3 := ((0, i, 0), (0, i, 0))
section
variable (c : Nat → Nat → Nat)
theorem st_ok {n i : Nat} (hi : i < n) (hd : doorC c (0, i, 0) = true) : okS c n (stS i) := ⟨⟨Nat.zero_le _, by simp only [stS]; omega⟩, by simp [stS, edsC], hd⟩
theorem st_start (n : Nat) (h3 : Col3 c n) (i : Nat) : Start (nxS c n) (stS i) := fun y h => by
  obtain ⟨g, _, hb, hm, _⟩ := nxS_some c h3 h
  obtain ⟨_, _, _, k⟩ := behC_ok g.1 hm hb
  unfold stS behC lowC uppC at k
  simp at k
theorem it_ok {n : Nat} (h3 : Col3 c n) {s : Tri3 × Tri3} (hs : okS c n s) : ∀ (k : Nat) (a : Tri3 × Tri3), it (nxS c n) k s = some a → okS c n a
  | 0, a, h => by have := Option.some.inj h; subst this; exact hs
  | k + 1, a, h => by
    obtain ⟨b, _, hb⟩ := it_pred h
    exact (nxS_some c h3 hb).2.2.2.2
def WalksT (n : Nat) (T : Nat → Nat) : Prop := ∀ i, i < n → doorC c (0, i, 0) = true → ∃ a, it (nxS c n) (T i) (stS i) = some a ∧ nxS c n a = none
def exitS (s : Tri3 × Tri3) : Nat := ((othC c s.1 s.2).getD s.2).2.1
theorem door_border {n : Nat} (hp : Prop3 c n) {x e : Tri3} (hx : ceOk n x) (he : e ∈ edsC x) (hd : doorC c e = true) (hb : behC n x e = none) : ∃ a, a < n ∧ e = (0, a, 0) ∧ x = (0, a, 0) := by
  have hok := edsC_ok hx he
  unfold behC at hb
  split at hb
  · rename_i hxu
    obtain ⟨t, a, b⟩ := e
    unfold edOk at hok
    unfold lowC at hb
    simp only at hok hb
    have hD : isD (c (edP (t, a, b)).1 (edP (t, a, b)).2) (c (edQ (t, a, b)).1 (edQ (t, a, b)).2) = true := hd
    rcases (show t = 0 ∨ t = 1 ∨ t = 2 by omega) with rfl | rfl | rfl
    · rw [if_pos rfl] at hb
      split at hb
      · rename_i h0
        subst h0
        exact ⟨a, by omega, rfl, hxu⟩
      · cases hb
    · rw [if_neg (by omega), if_pos rfl] at hb
      split at hb
      · rename_i h0
        subst h0
        have h1 := (hp 0 b (by omega)).2.2.1 rfl
        have h2 := (hp 0 (b + 1) (by omega)).2.2.1 rfl
        have hD : isD (c 0 b) (c 0 (b + 1)) = true := hD
        unfold isD at hD
        simp [h1, h2] at hD
      · cases hb
    · rw [if_neg (by omega), if_neg (by omega)] at hb
      split at hb
      · cases hb
      · have h1 := (hp a (b + 1) (by omega)).2.2.2 (by omega)
        have h2 := (hp (a + 1) b (by omega)).2.2.2 (by omega)
        have hD : isD (c a (b + 1)) (c (a + 1) b) = true := hD
        unfold isD at hD
        simp [h1, h2] at hD
  · cases hb
theorem prop_col {n : Nat} (hp : Prop3 c n) : Col3 c n := fun i j h => (hp i j h).1
theorem same_cell {n : Nat} (h3 : Col3 c n) {s t : Tri3 × Tri3} (hs : okS c n s) (ht : okS c n t) (h : s.1 = t.1) : s = t ∨ (goodS c n s ∧ goodS c n t ∧ t = revS c s) := by
  by_cases hd : s.2 = t.2
  · exact .inl (Prod.ext h hd)
  · right
    cases hf : fulC3 c s.1 with
    | true => exact absurd (oth_full c h3 hs.1 hs.2.1 hs.2.2 hf (h ▸ ht.2.1) ht.2.2) (fun h => hd h.symm)
    | false =>
      obtain ⟨o, h1, h2, h4, h5, h6⟩ := oth_some c h3 hs.1 hs.2.1 hs.2.2 hf
      refine ⟨⟨hs.1, hs.2.1, hs.2.2, hf⟩, ⟨ht.1, ht.2.1, ht.2.2, h ▸ hf⟩, ?_⟩
      unfold revS
      rw [h1, Option.getD_some]
      exact Prod.ext h.symm (h6 t.2 (h ▸ ht.2.1) ht.2.2 (fun e => hd e.symm))
theorem walk_end {n : Nat} (hp : Prop3 c n) {s : Tri3 × Tri3} (hs : okS c n s) (hn : nxS c n s = none) : fulC3 c s.1 = true ∨ (goodS c n s ∧ exitS c s < n ∧ othC c s.1 s.2 = some (0, exitS c s, 0) ∧ doorC c (0, exitS c s, 0) = true ∧ behC n s.1 (0, exitS c s, 0) = none ∧ revS c s = stS (exitS c s) ∧ s.2 ≠ (0, exitS c s, 0)) := by
  cases hf : fulC3 c s.1 with
  | true => exact .inl rfl
  | false =>
    right
    have hg : goodS c n s := ⟨hs.1, hs.2.1, hs.2.2, hf⟩
    obtain ⟨o, h1, h2, h4, h5, h6⟩ := oth_some c (prop_col c hp) hs.1 hs.2.1 hs.2.2 hf
    cases hb : behC n s.1 o with
    | some y => rw [nxS_of c hg h1 hb] at hn; cases hn
    | none =>
      obtain ⟨a, k1, rfl, k3⟩ := door_border c hp hs.1 h2 h4 hb
      have e : exitS c s = a := by unfold exitS; rw [h1]; rfl
      rw [e]
      exact ⟨hg, k1, h1, h4, hb, by unfold revS stS; rw [h1, Option.getD_some, k3], fun h => h5 h.symm⟩
def Leaves (n : Nat) (T : Nat → Nat) (i j : Nat) : Prop := i < n ∧ doorC c (0, i, 0) = true ∧ ∃ e, it (nxS c n) (T i) (stS i) = some e ∧ nxS c n e = none ∧ goodS c n e ∧ revS c e = stS j ∧ exitS c e = j
theorem it_back {n : Nat} (h3 : Col3 c n) {s : Tri3 × Tri3} : ∀ (T : Nat) (e : Tri3 × Tri3), it (nxS c n) T s = some e → goodS c n e → it (nxS c n) T (revS c e) = some (revS c s)
  | 0, e, h, hg => by have := Option.some.inj h; subst this; rfl
  | T + 1, e, h, hg => by
    obtain ⟨b, h1, h2⟩ := it_pred h
    have hb : goodS c n b := (nxS_some c h3 h2).1
    have h4 := (doorsS c h3).back b e h2 hg
    have ih := it_back h3 T b h1 hb
    -- it (T+1) (rev e) = it T (rev b)
    have key : ∀ (k : Nat) (x y : Tri3 × Tri3), nxS c n x = some y → it (nxS c n) (k + 1) x = it (nxS c n) k y := by
      intro k
      induction k with
      | zero => intro x y h; show (some x).bind (nxS c n) = some y; exact h
      | succ k ihk =>
        intro x y h
        show (it (nxS c n) (k + 1) x).bind (nxS c n) = (it (nxS c n) k y).bind (nxS c n)
        rw [ihk x y h]
    rw [key T _ _ h4]
    exact ih
theorem it_end {n : Nat} {x a b : Tri3 × Tri3} {s t : Nat} (h : it (nxS c n) s x = some a) (ha : nxS c n a = none) (k : it (nxS c n) t x = some b) : t ≤ s := by
  rcases Nat.lt_or_ge s t with h1 | h1
  · obtain ⟨f, hf⟩ := it_le (s + 1) k (by omega)
    obtain ⟨e', f1, f2⟩ := it_pred hf
    have : e' = a := Option.some.inj (f1.symm.trans h)
    rw [this, ha] at f2
    cases f2
  · exact h1
theorem Leaves.turn {n : Nat} {T : Nat → Nat} (hp : Prop3 c n) (hT : WalksT c n T) {i j : Nat} (h : Leaves c n T i j) : Leaves c n T j i ∧ i ≠ j := by
  have h3 := prop_col c hp
  obtain ⟨hi, hd, e, h1, h2, h4, h5, h6⟩ := h
  have hoke := it_ok c h3 (st_ok c hi hd) _ _ h1
  rcases walk_end c hp hoke h2 with hf | ⟨_, k1, k2, k3, k4, k5, k6⟩
  · rw [h4.2.2.2] at hf; cases hf
  · rw [h6] at k1 k2 k3 k4 k5 k6
    have hb := it_back c h3 (T i) e h1 h4
    rw [k5] at hb
    -- the end: rev (st i)
    have hgs : goodS c n (stS i) := by
      cases hT0 : T i with
      | zero => rw [hT0] at h1; have := Option.some.inj h1; rw [this]; exact h4
      | succ m =>
        rw [hT0] at h1
        obtain ⟨f, hf⟩ := it_le 1 h1 (by omega)
        obtain ⟨b, f1, f2⟩ := it_pred hf
        have : b = stS i := (Option.some.inj f1).symm
        rw [← this]
        exact (nxS_some c h3 f2).1
    obtain ⟨o, o1, o2, o3, o4, o5⟩ := oth_some c h3 hgs.1 hgs.2.1 hgs.2.2.1 hgs.2.2.2
    have er : revS c (stS i) = ((0, i, 0), o) := by unfold revS; rw [o1]; rfl
    rw [er] at hb
    obtain ⟨p, p1, p2, p3, p4, p5⟩ := oth_some c h3 hgs.1 o2 o3 hgs.2.2.2
    have hpe : p = (0, i, 0) := (p5 (0, i, 0) hgs.2.1 hgs.2.2.1 (fun h => o4 h.symm)).symm
    subst hpe
    have p1 : othC c (0, i, 0) o = some (0, i, 0) := p1
    have hlow : behC n (0, i, 0) (0, i, 0) = none := by simp [behC, uppC, lowC]
    have hg2 : goodS c n ((0, i, 0), o) := ⟨hgs.1, o2, o3, hgs.2.2.2⟩
    have hnn : nxS c n ((0, i, 0), o) = none := by
      unfold nxS
      rw [if_pos hg2]
      show (othC c (0, i, 0) o).bind _ = none
      rw [p1, Option.bind_some]
      show (behC n (0, i, 0) (0, i, 0)).map _ = none
      rw [hlow]
      rfl
    obtain ⟨a, q1, q2⟩ := hT j k1 k3
    have t1 := it_end c hb hnn q1
    have t2 := it_end c q1 q2 hb
    have hTj : T j = T i := by omega
    refine ⟨⟨k1, k3, ((0, i, 0), o), by rw [hTj]; exact hb, hnn, hg2, ?_, ?_⟩, ?_⟩
    · unfold revS
      show ((0, i, 0), (othC c (0, i, 0) o).getD o) = stS i
      rw [p1]
      rfl
    · unfold exitS
      show ((othC c (0, i, 0) o).getD o).2.1 = i
      rw [p1]
      rfl
    · intro hij
      subst hij
      -- the same cell at the beginning and at the end
      have hc : (revS c e).1 = (stS i).1 := by rw [k5]
      have hc : e.1 = (stS i).1 := hc
      have hz : T i = 0 := (doorsS c h3).cells (st_start c n h3 i) h1 (show it (nxS c n) 0 (stS i) = some (stS i) from rfl) (same_cell c h3 hoke (st_ok c hi hd) hc)
      rw [hz] at h1
      have := Option.some.inj h1
      rw [← this] at k6
      exact k6 rfl
end
end Go.Proofs.YtlmgkmmdaecpdaaDoor.Mi

namespace Go.Proofs.YtlmgkmmdaecpdaaDoor.Im
open Go.RowKit Go.Proofs.YtlmgkmmdaecpdaaDoorW.PrintWords Go.Proofs.YtlmgkmmdaecpdaaDoorW.PrintLast Go.Proofs.YtlmgkmmdaecpdaaDoorW.PrintMore Go.Proofs.YtlmgkmmdaecpdaaDoor.Mi
set_option linter.unusedVariables false
set_option linter.unusedSimpArgs false
theorem keyOf_quad {P : Program} {k p e : TypeId} {q : IntKind} (hu : P.underlying k = some (.array 2 p)) (A : WideMaps.ArrKey P p e 2) (he : P.underlying e = some (.int q)) (h4 : P.cellsOf k = 4) (hkt : P.keyType k = true) (hsz : ∃ m, P.types.size = m + 2) {a b c d : Int} (wa : (Lit.int q a).wf = true) (wb : (Lit.int q b).wf = true) (wc : (Lit.int q c).wf = true) (wd : (Lit.int q d).wf = true) :
    keyOf P k (.agg #[.int q a, .int q b, .int q c, .int q d]) = some (.string (keyBytes [.int q a, .int q b, .int q c, .int q d])) := by
  obtain ⟨m, hm⟩ := hsz
  have inner : ∀ x y : Int, (Lit.int q x).wf = true → (Lit.int q y).wf = true → P.keyLits (m + 2) p [.int q x, .int q y] = some [.int q x, .int q y] := fun x y hx hy => by
    unfold Program.keyLits
    simp only [A.hu]
    rw [if_pos (by rw [A.size]; rfl), show List.range 2 = [0, 1] from rfl, List.mapM_cons, List.mapM_cons, List.mapM_nil]
    simp [A.one, Program.keyLits, he, hx, hy]
  unfold keyOf
  simp only [hu]
  rw [if_pos (by simp [hkt, Value.formed, hu, h4]), hm]
  unfold Program.keyLits
  simp only [hu, Value.cells]
  rw [if_pos (by rw [h4]; rfl), show List.range 2 = [0, 1] from rfl, List.mapM_cons, List.mapM_cons, List.mapM_nil]
  simp [A.size, inner a b wa wb, inner c d wc wd]
theorem sizeT2 : ∃ m, Tryd.prog.types.size = m + 2 := ⟨_, (by kernel_rfl : Tryd.prog.types.size = (Tryd.prog.types.size - 2) + 2)⟩
theorem klawE : WideMaps.KeyLaw Tryd.prog 97 := deep_law (m := 3) (by decide) (by kernel_rfl) (by kernel_rfl) (by kernel_rfl)
theorem lawE : Maps.Keyed Tryd.prog 97 := Maps.Keyed.of_law klawE
def edV (e : Tri3) : Value := .agg #[.int .i64 ((edP e).1 : Nat), .int .i64 ((edP e).2 : Nat), .int .i64 ((edQ e).1 : Nat), .int .i64 ((edQ e).2 : Nat)]
def kE (e : Tri3) : Lit := .string (keyBytes [.int .i64 ((edP e).1 : Nat), .int .i64 ((edP e).2 : Nat), .int .i64 ((edQ e).1 : Nat), .int .i64 ((edQ e).2 : Nat)])
theorem ed_pts {n : Nat} {e : Tri3} (h : edOk n e) : (edP e).1 + (edP e).2 ≤ n ∧ (edQ e).1 + (edQ e).2 ≤ n := by
  obtain ⟨t, a, b⟩ := e
  unfold edOk at h
  unfold edP edQ
  simp only at h ⊢
  constructor
  · split <;> simp only <;> omega
  · split <;> simp only <;> omega
theorem key_E {n : Nat} {e : Tri3} (h : edOk n e) (hn : n ≤ 20) : keyOf Tryd.prog 97 (edV e) = some (kE e) := by
  obtain ⟨h1, h2⟩ := ed_pts h
  exact keyOf_quad (by kernel_rfl) arrP Tryd.underlying3 (by kernel_rfl) (by kernel_rfl) sizeT2 (wf_n (by omega)) (wf_n (by omega)) (wf_n (by omega)) (wf_n (by omega))
theorem kE_key (e : Tri3) : WideAt.IsKeyLit (kE e) := by constructor
theorem deep_inj {P : Program} {k : TypeId} {m : Nat} (ht : P.tiled m k = true) (hwide : (match P.underlying k with | some (.array _ _) | some (.struct _) => true | _ => false) = true) {a b : Value} {l : Lit} (ha : keyOf P k a = some l) (hb : keyOf P k b = some l) : a = b := keyOf_inj_deep ht hwide ha hb
theorem tiledE : Tryd.prog.tiled 3 97 = true := by kernel_rfl
theorem wideE : (match Tryd.prog.underlying 97 with | some (.array _ _) | some (.struct _) => true | _ => false) = true := by kernel_rfl
theorem edV_inj {n m : Nat} {e f : Tri3} (he : edOk n e) (hf : edOk m f) (h : edV e = edV f) : e = f := by
  have h3 : #[Value.int .i64 ((edP e).1 : Nat), .int .i64 ((edP e).2 : Nat), .int .i64 ((edQ e).1 : Nat), .int .i64 ((edQ e).2 : Nat)] = #[Value.int .i64 ((edP f).1 : Nat), .int .i64 ((edP f).2 : Nat), .int .i64 ((edQ f).1 : Nat), .int .i64 ((edQ f).2 : Nat)] := by
    unfold edV at h
    injection h
  have e0 := congrArg (fun a => a[0]?) h3
  have e1 := congrArg (fun a => a[1]?) h3
  have e2 := congrArg (fun a => a[2]?) h3
  have e3 := congrArg (fun a => a[3]?) h3
  simp at e0 e1 e2 e3
  obtain ⟨t, a, b⟩ := e
  obtain ⟨t', a', b'⟩ := f
  unfold edOk at he hf
  unfold edP at e0 e1
  unfold edQ at e2 e3
  simp only at he hf e0 e1 e2 e3
  clear h h3
  have q : t = t' ∧ a = a' ∧ b = b' := by
    rcases (show t = 0 ∨ t = 1 ∨ t = 2 by omega) with rfl | rfl | rfl <;> rcases (show t' = 0 ∨ t' = 1 ∨ t' = 2 by omega) with rfl | rfl | rfl <;> simp at e0 e1 e2 e3 <;> omega
  obtain ⟨rfl, rfl, rfl⟩ := q
  rfl
theorem kE_inj {n : Nat} {e f : Tri3} (hn : n ≤ 20) (he : edOk n e) (hf : edOk n f) (h : kE e = kE f) : e = f := by
  have h1 := key_E he hn
  have h2 := key_E hf hn
  rw [← h] at h2
  exact edV_inj he hf (deep_inj tiledE wideE h1 h2)
structure EdS (n : Nat) (L : List Tri3) (D : DataW Unit) : Prop where
  tidy : Maps.Tidy D
  has : ∀ e, edOk n e → (Maps.has D (kE e) = true ↔ e ∈ L)
  at_ : ∀ e ∈ L, ∀ z, D.atKey (kE e) z = .lit (.bool true)
  ok : ∀ e ∈ L, edOk n e
  size : Maps.size D = L.length
theorem EdS.start (n : Nat) : EdS n [] (.map []) := ⟨Maps.tidy_empty, fun e _ => ⟨fun h => (by cases h), fun h => (by cases h)⟩, fun e h => (by cases h), fun e h => (by cases h), rfl⟩
theorem EdS.put {n : Nat} {L : List Tri3} {D : DataW Unit} (h : EdS n L D) (hn : n ≤ 20) {e : Tri3} (he : edOk n e) (hne : e ∉ L) : EdS n (L ++ [e]) (D.put (kE e) (.lit (.bool true))) := by
  have hk := kE_key e
  refine ⟨h.tidy.put hk _, fun f hf => ?_, fun f hf z => ?_, fun f hf => ?_, ?_⟩
  · by_cases q : kE f = kE e
    · have := kE_inj hn hf he q
      subst this
      rw [Maps.has_put_same h.tidy.isMap hk]
      simp
    · rw [Maps.has_put_other q, h.has f hf]
      have : f ≠ e := fun x => q (by rw [x])
      simp [this]
  · by_cases q : kE f = kE e
    · rw [q]; exact Maps.atKey_put_same h.tidy.isMap hk _ _
    · rw [Maps.atKey_put_other q]
      have : f ≠ e := fun x => q (by rw [x])
      rcases List.mem_append.1 hf with h1 | h1
      · exact h.at_ f h1 z
      · exact absurd (by simpa using h1) this
  · rcases List.mem_append.1 hf with h1 | h1
    · exact h.ok f h1
    · have : f = e := by simpa using h1
      exact this ▸ he
  · have hf : Maps.has D (kE e) = false := by
      cases hq : Maps.has D (kE e) with
      | false => rfl
      | true => exact absurd ((h.has e he).1 hq) hne
    rw [Maps.size_put h.tidy, if_neg (by rw [hf]; decide), h.size, List.length_append]
    rfl
theorem EdS.again {n : Nat} {L : List Tri3} {D : DataW Unit} (h : EdS n L D) (hn : n ≤ 20) {e : Tri3} (he : edOk n e) (hm : e ∈ L) : EdS n L (D.put (kE e) (.lit (.bool true))) := by
  have hk := kE_key e
  refine ⟨h.tidy.put hk _, fun f hf => ?_, fun f hf z => ?_, h.ok, ?_⟩
  · by_cases q : kE f = kE e
    · have := kE_inj hn hf he q
      subst this
      rw [Maps.has_put_same h.tidy.isMap hk]
      simp [hm]
    · rw [Maps.has_put_other q, h.has f hf]
  · by_cases q : kE f = kE e
    · rw [q]; exact Maps.atKey_put_same h.tidy.isMap hk _ _
    · rw [Maps.atKey_put_other q]; exact h.at_ f hf z
  · rw [Maps.size_put h.tidy, if_pos ((h.has e he).2 hm), h.size]
theorem plainElem_bool_inv {P : Program} {e : TypeId} (he : P.underlying e = some .bool) {v : Value} {z : DataW Unit × List MemPlace} (h : plainElem P e v = some z) : ∃ b, v = .bool b ∧ z = (.lit (.bool b), []) := by
  unfold plainElem at h
  rw [he] at h
  cases v <;> simp at h
  exact ⟨_, rfl, h.symm⟩
theorem zeroB (w : World) : (zeroValue 4).run Tryd.prog w = .ok (.bool false) w := by kernel_rfl
theorem eds_look {w : World} {b m n : Nat} {L : List Tri3} {D : DataW Unit} (ho : w.ownsMap Tryd.prog 97 (plainElem Tryd.prog 4) b m D) (h : EdS n L D) (hn : n ≤ 20) {e : Tri3} (he : edOk n e) :
    (Instr.lookup 93 (.map (some b)) (edV e) false).run Tryd.prog w = .ok (.bool (L.contains e)) w := by
  obtain ⟨v, ps, h1, h2⟩ := ho.lookup lawE Tryd.underlying93 (zeroB w) (plainElem_bool (H := Unit) Tryd.underlying4 false) (key_E he hn)
  obtain ⟨x, rfl, h3⟩ := plainElem_bool_inv Tryd.underlying4 h2
  have h4 : D.atKey (kE e) (.lit (.bool false)) = .lit (.bool x) := congrArg Prod.fst h3
  have hx : x = L.contains e := by
    by_cases hm : e ∈ L
    · rw [h.at_ e hm] at h4
      have h6 := Lit.bool.inj (DataW.lit.inj h4)
      rw [← h6, List.contains_iff_mem.2 hm]
    · have hf : Maps.has D (kE e) = false := by
        cases hq : Maps.has D (kE e) with
        | false => rfl
        | true => exact absurd ((h.has e he).1 hq) hm
      rw [Maps.atKey_of_not_has hf] at h4
      have h6 := Lit.bool.inj (DataW.lit.inj h4)
      rw [← h6]
      cases hc : L.contains e with
      | false => rfl
      | true => exact absurd (List.contains_iff_mem.1 hc) hm
  rw [← hx]
  exact h1
end Go.Proofs.YtlmgkmmdaecpdaaDoor.Im

namespace Go.Proofs.YtlmgkmmdaecpdaaDoor.Im
open Go.RowKit Go.Proofs.YtlmgkmmdaecpdaaDoorW.PrintWords Go.Proofs.YtlmgkmmdaecpdaaDoorW.PrintLast Go.Proofs.YtlmgkmmdaecpdaaDoorW.PrintMore Go.Proofs.YtlmgkmmdaecpdaaDoor.Mi
set_option linter.unusedVariables false
set_option linter.unusedSimpArgs false
def upS (s : ByteArray) : Bool := (s.toList == (⟨#[48, 49, 50]⟩ : ByteArray).toList) || (s.toList == (⟨#[49, 50, 48]⟩ : ByteArray).toList) || (s.toList == (⟨#[50, 48, 49]⟩ : ByteArray).toList)
def upT (s : List UInt8) : Bool := (s == [48, 49, 50]) || (s == [49, 50, 48]) || (s == [50, 48, 49])
theorem upS_list (x y z : UInt8) : upS ⟨#[x, y, z]⟩ = upT [x, y, z] := by
  unfold upS upT
  rw [ByteArray.toList_mk, ByteArray.toList_mk, ByteArray.toList_mk, ByteArray.toList_mk]
theorem up_fin : ∀ x ∈ three, ∀ y ∈ three, ∀ z ∈ three, fulB ⟨#[x, y, z]⟩ = true → Lib.contains [48, 49, 50, 48, 49] [x, y, z] = upT [x, y, z] := by decide +kernel
theorem upS_three (s : ByteArray) : upS s = ((s.toList == [48, 49, 50]) || (s.toList == [49, 50, 48]) || (s.toList == [50, 48, 49])) := by
  have e1 : (⟨#[48, 49, 50]⟩ : ByteArray).toList = [48, 49, 50] := by rw [ByteArray.toList_mk]
  have e2 : (⟨#[49, 50, 48]⟩ : ByteArray).toList = [49, 50, 48] := by rw [ByteArray.toList_mk]
  have e3 : (⟨#[50, 48, 49]⟩ : ByteArray).toList = [50, 48, 49] := by rw [ByteArray.toList_mk]
  unfold upS
  rw [e1, e2, e3]
theorem tur_up {x y z : UInt8} (hx : x ∈ three) (hy : y ∈ three) (hz : z ∈ three) (h : fulB ⟨#[x, y, z]⟩ = true) (k : Nat) : turB ⟨#[x, y, z]⟩ k = (upS ⟨#[x, y, z]⟩ == decide (k = 0)) := by
  unfold turB
  rw [upS_list, ← up_fin x hx y hy z hz h]
set_option maxHeartbeats 6400000 in
set_option maxRecDepth 100000 in
theorem rturns_good (n : Int) (s : ByteArray) (w : World) (hs : s.size ≤ 1000000) (hE : triE n s = 0) :
    Calls Tryd.prog 38 #[.int .i64 n, .string s] w (TurnsPost n s w) := by
  have hcol := col_of hE
  have HTr := Aside0.mk (hE ▸ triangle_any n s w hs)
  have HE := Aside0.mk hE
  have hn1 := hcol.n1
  have hsz := col_size hE
  obtain ⟨N, rfl⟩ : ∃ N : Nat, n = N := ⟨n.toNat, by omega⟩
  rw [Int.toNat_natCast] at hcol hn1 hsz
  have HTo := Aside0.mk (fun (k i j : Nat) (w1 : World) (hk : k ≤ 1) (hij : i + j + k + 1 ≤ N) => told_any N s k i j w1 hcol.n20 hk hij hsz)
  have HCol := Aside0.mk hcol
  have HCe := Aside0.mk (fun w1 => rcells_any N hn1 hcol.n20 w1)
  obtain ⟨l, hl⟩ : ∃ l, s.data.toList = l := ⟨_, rfl⟩
  rw [hl] at HTo HCol
  have HLs := Aside0.mk hl
  clear hl hE hcol hsz
  go_enter Tryd.func38, Tryd.ntmps38
  go_wp2_with fail
  refine HTr.out.mono ?_
  rintro e w1 ⟨rfl, hb1⟩
  have HB := Aside0.mk hb1
  clear hb1
  go_wp2_with fail
  refine (HCe.out w1).mono ?_
  rintro e w2 ⟨v, rfl, hR, hb2⟩
  obtain ⟨A, c, rfl, hl, hC⟩ := Kd.R_reads hR
  have HC := Aside0.mk hC
  have HB2 := Aside0.mk (below_then HB.out HB.out.size hb2)
  have hlen : (cellsL N).length ≤ 800 := by have := celK_len (n := N) HCol.out.n20 2; unfold cellsL; omega
  clear hC hb2 hR HB
  obtain ⟨Q, hQ⟩ : ∃ Q, (cellsL N).length = Q := ⟨_, rfl⟩
  rw [hQ] at HC hl hlen ⊢
  have HQ := Aside0.mk hQ
  clear hQ
  go_wp2_with fail
  go_loopw [8, 9, 11] (fun v8 v9 v11 wr => ∃ q : Nat, q ≤ Q ∧ v11 = .int .i64 (q : Int) ∧ v8 = .int .i64 (rigN N l q : Nat) ∧ v9 = .int .i64 (lefN N l q : Nat) ∧ Aside0 (Below w2.heap.size w2 wr)) (fun _ _ v _ => Q - (intOf v).toNat)
  case atStart => exact ⟨0, Nat.zero_le _, rfl, rfl, rfl, ⟨Below.refl _ _⟩⟩
  case round =>
    obtain ⟨q, hq, rfl, rfl, rfl, HBr⟩ := hrel
    by_cases hqQ : q < Q
    · have q0 : (0 : Int) ≤ (q : Int) := Int.natCast_nonneg q
      have q1 : (q : Int) < (Q : Int) := Int.ofNat_lt.2 hqQ
      have dq : decide ((q : Int) < (Q : Int)) = true := decide_eq_true q1
      obtain ⟨ad, rfl, g0, g1, g2⟩ := at_T77 HC.out (q : Int) q0 q1
      rw [Int.toNat_natCast] at g0 g1 g2
      have hlt : q < (cellsL N).length := by rw [HQ.out]; exact hqQ
      have hrd : rd_T77 (cellsL N) (q : Int) = (cellsL N)[q] := by
        unfold rd_T77
        rw [Int.toNat_natCast, List.getD_eq_getElem?_getD, List.getElem?_eq_getElem hlt]; rfl
      obtain ⟨k, i, j, hk, hij, hx⟩ := mem_cells.1 (List.getElem_mem hlt)
      rw [hrd, hx] at g0 g1 g2
      change w2.cell? (ad.add (q * 3)) = some (.int .i64 (k : Int)) at g0
      change w2.cell? ⟨(ad.add (q * 3)).block, (ad.add (q * 3)).off + 1, none⟩ = some (.int .i64 (i : Int)) at g1
      change w2.cell? ⟨(ad.add (q * 3)).block, (ad.add (q * 3)).off + 2, none⟩ = some (.int .i64 (j : Int)) at g2
      have c0 := cell_below HBr.out g0
      have c1 := cell_below HBr.out g1
      have c2 := cell_below HBr.out g2
      have G0 := Aside0.mk g0
      have hsr := rigN_succ N l hlt
      have hsl := lefN_succ N l hlt
      rw [hx] at hsr hsl
      have HTk := Aside0.mk (fun w1 => HTo.out k i j w1 hk hij)
      have HFk := Aside0.mk (fun w1 => rfull_cell HCol.out hk hij w1)
      have hfc : fulC N l (cel k i j) = fulB (txtB N l k i j) := rfl
      have htc : turC N l (cel k i j) = turB (txtB N l k i j) k := rfl
      obtain ⟨x, y, z, e3, m1, m2, m3⟩ := HCol.out.txt hk hij
      have hup := tur_up m1 m2 m3 (k := k)
      rw [← e3] at hup
      rw [hfc, htc] at hsr hsl
      obtain ⟨tx, htx⟩ : ∃ tx, txtB N l k i j = tx := ⟨_, rfl⟩
      rw [htx] at HTk HFk hsr hsl hup
      have lr := rigN_le N l q
      have ll := lefN_le N l q
      rw [HQ.out] at lr ll
      generalize rigN N l q = rn at *
      generalize lefN N l q = ln at *
      obtain ⟨bb, hbb⟩ : ∃ bb, fulB tx = bb := ⟨_, rfl⟩
      rw [hbb] at HFk hsr hsl hup
      clear hbb htx g0 g1 g2 hrd hx hlt hfc htc e3 m1 m2 m3
      cases bb with
      | false =>
        simp only [Bool.false_and, Bool.false_eq_true, if_false, Nat.add_zero] at hsr hsl
        have HR1 := Aside0.mk hsr
        have HL1 := Aside0.mk hsl
        clear hsr hsl hup
        go_wp2_with fail
        refine (HTk.out wr).mono ?_
        rintro e w3 ⟨rfl, hb3⟩
        have HB3 := Aside0.mk hb3
        clear hb3
        go_wp2_with fail
        refine (HFk.out w3).mono ?_
        rintro e w4 ⟨rfl, hb4⟩
        have HB4 := Aside0.mk (below_then HBr.out HBr.out.size (below_then HB3.out HB3.out.size hb4))
        clear hb4
        go_wp2_with fail
        go_roundw
        case rel => exact ⟨q + 1, hqQ, by go_num, by rw [HR1.out], by rw [HL1.out], HB4⟩
        case measure => simp [intOf]; omega
      | true =>
        rw [hup rfl] at hsr hsl
        simp only [Bool.true_and] at hsr hsl
        rw [upS_three] at hsr hsl
        have HRr := Aside0.mk hsr
        have HLl := Aside0.mk hsl
        clear hup hsr hsl
        obtain ⟨b1, h1⟩ : ∃ b, (tx.toList == [48, 49, 50]) = b := ⟨_, rfl⟩
        obtain ⟨b2, h2⟩ : ∃ b, (tx.toList == [49, 50, 48]) = b := ⟨_, rfl⟩
        obtain ⟨b3, h3⟩ : ∃ b, (tx.toList == [50, 48, 49]) = b := ⟨_, rfl⟩
        have HH := Aside0.mk (And.intro h1 (And.intro h2 h3))
        rcases (show k = 0 ∨ k = 1 by omega) with rfl | rfl <;> cases b1 <;> cases b2 <;> cases b3
        all_goals
          go_wp2_with fail
          refine (HTk.out wr).mono ?_
          rintro e w3 ⟨rfl, hb3⟩
          have HB3 := Aside0.mk hb3
          clear hb3
          go_wp2_with fail
          refine (HFk.out w3).mono ?_
          rintro e w4 ⟨rfl, hb4⟩
          have HB4 := Aside0.mk (below_then HBr.out HBr.out.size (below_then HB3.out HB3.out.size hb4))
          have e0 := cell_below HB4.out G0.out
          clear hb4 c0 c1 c2
          go_wp2_with fail
          go_roundw
          case rel => exact ⟨q + 1, hqQ, by go_num, by rw [HRr.out, HH.out.1, HH.out.2.1, HH.out.2.2]; first | rfl | go_num, by rw [HLl.out, HH.out.1, HH.out.2.1, HH.out.2.2]; first | rfl | go_num, HB4⟩
          case measure => simp [intOf]; omega
    · obtain rfl : q = Q := by omega
      have dq : decide ((q : Int) < (q : Int)) = false := decide_eq_false (by omega)
      have HRa := Aside0.mk (show rigN N l q = rigL N l by rw [← HQ.out, rigN_all])
      have HLa := Aside0.mk (show lefN N l q = lefL N l by rw [← HQ.out, lefN_all])
      go_wp2_with fail
      go_ret3
      refine ⟨below_then HB2.out HB2.out.size HBr.out, ?_⟩
      rw [if_pos HE.out, Int.toNat_natCast, HLs.out, HRa.out, HLa.out]
      rfl
set_option maxHeartbeats 6400000 in
set_option maxRecDepth 100000 in
theorem rturns_bad (n : Int) (s : ByteArray) (w : World) (hs : s.size ≤ 1000000) (hE : triE n s ≠ 0) :
    Calls Tryd.prog 38 #[.int .i64 n, .string s] w (TurnsPost n s w) := by
  have HTr := Aside0.mk (triangle_any n s w hs)
  have HP : Aside0 (∀ w', Below w.heap.size w w' → TurnsPost n s w (.returned (.tuple #[.int .i64 0, .int .i64 0, .int .i64 (triE n s)])) w') := ⟨fun w' hb => ⟨hb, by rw [if_neg hE]⟩⟩
  have hz : (triE n s == 0) = false := beq_eq_false_iff_ne.2 hE
  clear hE
  generalize triE n s = z at *
  go_enter Tryd.func38, Tryd.ntmps38
  go_wp2_with fail
  refine HTr.out.mono ?_
  rintro e w1 ⟨rfl, hb1⟩
  have HB := Aside0.mk hb1
  clear hb1
  go_wp2_with fail
  go_ret3
  exact HP.out _ HB.out
theorem rturns_call (n : Int) (s : ByteArray) (w : World) (hs : s.size ≤ 1000000) : Calls Tryd.prog 38 #[.int .i64 n, .string s] w (TurnsPost n s w) := by
  by_cases hE : triE n s = 0
  · exact rturns_good n s w hs hE
  · exact rturns_bad n s w hs hE
end Go.Proofs.YtlmgkmmdaecpdaaDoor.Im

