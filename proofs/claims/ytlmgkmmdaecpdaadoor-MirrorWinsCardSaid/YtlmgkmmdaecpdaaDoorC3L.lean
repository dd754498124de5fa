/- Further parts of the same walk: contracts of the functions that the law reaches, each under the conditions that it states. -/
import Derived.Test.YtlmgkmmdaecpdaaDoorC3K
import Derived.Deep.RegionHeld
namespace Go.Proofs.YtlmgkmmdaecpdaaDoor.Im
open Go.RowKit
set_option linter.unusedVariables false
section
variable {P : Program} {ops : Array Oper} {Q : Exit → Act → World → Prop} {md : Region.Mode} {S : World → Prop}
theorem at_list {i : Nat} {o : Oper} (h : ops.toList[i]? = some o) : ops[i]? = some o := by rw [← Array.getElem?_toList]; exact h
theorem wpAnyH_takeL {i : Nat} {oi : Oper} {v : Value} {fuel : Nat} {listed : Array Bool} {a : Act} {w : World} (hi : ops.toList[i]? = some oi)
    (hs : Region.noSelect ops = true) (hf : Region.free md ops listed i = true) (hr : (Region.ready md ops listed).contains i = true)
    (hQ : ∀ c a w, Q (.panic c) (a.put oi.dst v) w → Q (.panic c) a w) (hy : YieldsIf P ops S oi v a) (hS : S w)
    (h : wpAnyH P md ops Q S fuel (listed.setIfInBounds i true) (a.put oi.dst v) w) : wpAnyH P md ops Q S (fuel + 1) listed a w :=
  wpAnyH_take (at_list hi) hs hf hr hQ hy hS h
theorem AllReadyH.consL {fuel : Nat} {listed : Array Bool} {a : Act} {w : World} {i : Nat} {o : Oper} {rs : List Nat} (ho : ops.toList[i]? = some o)
    (h : ∀ K' : Act → World → Prop, Shut (∀ a w, S w → (S w → wpAnyH P md ops Q S fuel (listed.setIfInBounds i true) a w) → K' a w) → if Region.wanted o (yielded ops a.tmps) = true then Oper.wp P o a w K' Q else K' (a.put o.dst undef) w)
    (hs : AllReadyH P md ops Q S fuel listed a w rs) : AllReadyH P md ops Q S fuel listed a w (i :: rs) := AllReadyH.cons (at_list ho) h hs
end
end Go.Proofs.YtlmgkmmdaecpdaaDoor.Im

namespace Go.Proofs.YtlmgkmmdaecpdaaDoor.Im
open Go.RowKit Go.Proofs.YtlmgkmmdaecpdaaDoorW.PrintWords Go.Proofs.YtlmgkmmdaecpdaaDoorW.PrintLast Go.Proofs.YtlmgkmmdaecpdaaDoorW.PrintMore Go.Proofs.YtlmgkmmdaecpdaaDoor.Mi
set_option linter.unusedVariables false
set_option linter.unusedSimpArgs false
theorem rlen {w1 : World} {base : Nat} {ok : Nat → Prop} {v : Value} {G : List Nat} {n : Nat} {bs : List Int} {q : Int} (hG : brO n bs q = some G) (hR : Kd.R (Kd.int .i64) 3 w1 base ok v (ints ((some G).getD []))) : ∃ (K : Nat) (A : Addr) (c : Nat), 0 < K ∧ v = .slice (some A) K c := by
  have hF := brO_first hG
  have h0 : 0 < G.length := by
    cases G with
    | nil => exact absurd rfl hF.way.ne
    | cons a t => simp
  obtain ⟨g, c, e, _⟩ := Kd.R_form hR (by show 0 < (ints G).length; rw [ints_len]; exact h0)
  have e2 : (ints ((some G).getD [])).length = G.length := ints_len G
  rw [e2] at e
  exact ⟨_, _, c, h0, e⟩
theorem rnil {w1 : World} {base : Nat} {ok : Nat → Prop} {v : Value} (hR : Kd.R (Kd.int .i64) 3 w1 base ok v (ints ((none : Option (List Nat)).getD []))) : ∃ A c, v = .slice A 0 c := by
  obtain ⟨A, c, e, _⟩ := Kd.R_reads hR
  exact ⟨A, c, e⟩
set_option maxHeartbeats 12800000 in
set_option maxRecDepth 100000 in
theorem rwins_at (n k : Nat) (hn : 1 ≤ n) (h11 : n ≤ 11) (ih : ∀ k', k' + 1 = k → RW n k') : RW n k := by
  intro l w hk hl hb
  have HX := Aside0.mk (fun (s : ByteArray) (hs : s.size = n * n) (p : Int) (hp : p = 120 ∨ p = 111) (w1 : World) => shortest_any n s p w1 hn h11 hs hp)
  obtain ⟨s, hs⟩ : ∃ s, (⟨l.toArray⟩ : ByteArray) = s := ⟨_, rfl⟩
  have hbs : bsOf s = bl l := by rw [← hs]; rfl
  have hzl : s.size = l.length := by rw [← hs]; simp [ByteArray.size]
  have hdl : s.data.toList = l := by rw [← hs]
  have hsz : s.size = n * n := by rw [hzl, hl]
  have hM : n * n ≤ 121 := Nat.mul_le_mul h11 h11
  have hx := HX.out s hsz 120 (.inl rfl)
  have hy := HX.out s hsz 111 (.inr rfl)
  rw [hbs] at hx hy
  rw [hs]
  cases h1 : brO n (bl l) 120 with
  | some G =>
    have hg : gv n l = 120 := gv_x_won (by unfold winB; rw [h1]; rfl)
    rw [h1] at hx
    have HXX := Aside0.mk hx
    have HG := Aside0.mk h1
    rw [hg]
    clear hx hy h1 hg hs hbs hzl hdl hsz hl hb hk ih
    go_enter Tryd.func45, Tryd.ntmps45
    go_wp2_with fail
    refine (HXX.out w).mono ?_
    rintro e w2 ⟨v, rfl, hR, hb2⟩
    obtain ⟨K, A, c, hK, rfl⟩ := rlen HG.out hR
    have HB2 := Aside0.mk hb2
    have g1 : decide ((0 : Int) < (K : Int)) = true := decide_eq_true (by omega)
    have g2 : decide (0 < K) = true := decide_eq_true hK
    clear hb2 hR
    go_wp2_with fail
    go_ret
    exact ⟨rfl, HB2.out⟩
  | none =>
    rw [h1] at hx
    have HXX := Aside0.mk hx
    cases h2 : brO n (bl l) 111 with
    | some G =>
      have hw : winB n (bl l) = 111 := by unfold winB; rw [h1, h2]; rfl
      have hg : gv n l = 111 := by rw [gv_won (by rw [hw]; decide), hw]
      rw [h2] at hy
      have HYY := Aside0.mk hy
      have HG := Aside0.mk h2
      rw [hg]
      clear hx hy h1 h2 hg hw hs hbs hzl hdl hsz hl hb hk ih
      go_enter Tryd.func45, Tryd.ntmps45
      go_wp2_with fail
      refine (HXX.out w).mono ?_
      rintro e w2 ⟨v, rfl, hR, hb2⟩
      obtain ⟨A0, c0, rfl⟩ := rnil hR
      have HB2 := Aside0.mk hb2
      clear hb2 hR
      go_wp2_with fail
      refine (HYY.out w2).mono ?_
      rintro e w3 ⟨v, rfl, hR, hb3⟩
      obtain ⟨K, A, c, hK, rfl⟩ := rlen HG.out hR
      have HB3 := Aside0.mk (below_then HB2.out HB2.out.size hb3)
      have g1 : decide ((0 : Int) < (K : Int)) = true := decide_eq_true (by omega)
      have g2 : decide (0 < K) = true := decide_eq_true hK
      clear hb3 hR
      go_wp2_with fail
      go_ret
      exact ⟨rfl, HB3.out⟩
    | none =>
      have hw : winB n (bl l) = 0 := by unfold winB; rw [h1, h2]; rfl
      rw [h2] at hy
      have HYY := Aside0.mk hy
      have HW := Aside0.mk hw
      have HM1 := Aside0.mk (fun (w1 : World) => (show Calls Tryd.prog _ #[.string s, .int .u8 120] w1 _ from many_any s 120 w1 (by omega)))
      have HM2 := Aside0.mk (fun (w1 : World) => (show Calls Tryd.prog _ #[.string s, .int .u8 111] w1 _ from many_any s 111 w1 (by omega)))
      rw [hdl] at HM1 HM2
      obtain ⟨cx, hcx⟩ : ∃ c, l.count 120 = c := ⟨_, rfl⟩
      obtain ⟨co, hco⟩ : ∃ c, l.count 111 = c := ⟨_, rfl⟩
      have hnx : nxB l = if co < cx then 111 else 120 := by unfold nxB; rw [hcx, hco]
      rw [hcx] at HM1
      rw [hco] at HM2
      have hcl : ∀ b : UInt8, l.count b ≤ l.length := fun b => List.count_le_length
      have hcx1 : cx ≤ 121 := by have := hcl 120; omega
      have hco1 : co ≤ 121 := by have := hcl 111; omega
      have HByte : Aside0 (∀ (i : Nat) (h : i < s.size), ((s[i]'h).toNat : Int) = 46 ↔ l[i]? = some 46) := ⟨fun i h => by
        rw [byte_of h, hbs, bl_byte]
        constructor
        · intro e
          exact bl_getD (by decide) ((byte_eq (b := 46)).1 e)
        · intro e
          rw [List.getD, e]
          rfl⟩
      have HIH : Aside0 (∀ (i : Nat) (c : UInt8), i < s.size → l[i]? = some 46 → (c = 120 ∨ c = 111) → ∃ (s2 : ByteArray), s.extract 0 i ++ ⟨#[c]⟩ ++ s.extract (i + 1) s.size = s2 ∧ ∀ w1, Calls Tryd.prog 45 #[.int .i64 n, .string s2] w1 fun e w' => e = .returned (.int .u8 (gv n (l.set i c))) ∧ Below w1.heap.size w1 w') := ⟨fun i c hi h46 hc => by
        refine ⟨⟨(l.set i c).toArray⟩, by rw [← hs]; exact put_data l c i (by omega), fun w1 => ?_⟩
        have hc46 : c ≠ 46 := by rcases hc with rfl | rfl <;> decide
        have hcd := count_dots h46 c hc46
        refine ih _ (by rw [← hk]; exact hcd) (l.set i c) w1 rfl (by rw [List.length_set]; exact hl) fun b hbm => ?_
        rcases List.mem_or_eq_of_mem_set hbm with h | h
        · exact hb b h
        · rw [h]
          rcases hc with e | e
          · exact .inl e
          · exact .inr (.inl e)⟩
      have hgc := fun i c => gv_cases n (l.set i c)
      have HGC := Aside0.mk hgc
      have hMv : ∀ (i : Nat) (c : UInt8), nxB l = c → l[i]? = some 46 → gv n (l.set i c) = (c.toNat : Int) → gv n l = (c.toNat : Int) := fun i c h1 h2 h3 => by
        subst h1
        exact gv_move hw h2 h3
      have HMv := Aside0.mk hMv
      have hNo : ∀ (c : UInt8), nxB l = c → (∀ i : Nat, l[i]? = some 46 → gv n (l.set i c) ≠ (c.toNat : Int)) → gv n l = 231 - (c.toNat : Int) := fun c h1 h2 => by
        subst h1
        exact gv_no hw h2
      have HNo := Aside0.mk hNo
      have hs121 : s.size ≤ 121 := by omega
      have HLs := Aside0.mk hzl
      clear hx hy h1 h2 hw hs hbs hdl hsz hl hb hk ih hcl hgc hMv hNo hcx hco hzl hM
      by_cases hc : co < cx
      · rw [if_pos hc] at hnx
        have HNX := Aside0.mk hnx
        have d1 : decide ((co : Int) < (cx : Int)) = true := decide_eq_true (by omega)
        have d2 : decide (co < cx) = true := decide_eq_true (by omega)
        obtain ⟨gr, hgr⟩ : ∃ g, gv n l = g := ⟨_, rfl⟩
        rw [hgr]
        have HGR := Aside0.mk hgr
        clear hnx hc hgr
        go_enter Tryd.func45, Tryd.ntmps45
        go_wp2_with fail
        refine (HXX.out w).mono ?_
        rintro e w2 ⟨v, rfl, hR, hb2⟩
        obtain ⟨A0, c0, rfl⟩ := rnil hR
        have HB2 := Aside0.mk hb2
        clear hb2 hR
        go_wp2_with fail
        refine (HYY.out w2).mono ?_
        rintro e w3 ⟨v, rfl, hR, hb3⟩
        obtain ⟨A1, c1, rfl⟩ := rnil hR
        have HB3 := Aside0.mk (below_then HB2.out HB2.out.size hb3)
        clear hb3 hR
        go_wp2_with fail
        refine (HM1.out w3).mono ?_
        rintro e w4 ⟨rfl, hb4⟩
        have HB4 := Aside0.mk (below_then HB3.out HB3.out.size hb4)
        clear hb4
        go_wp2_with fail
        refine (HM2.out w4).mono ?_
        rintro e w5 ⟨rfl, hb5⟩
        have HB5 := Aside0.mk (below_then HB4.out HB4.out.size hb5)
        clear hb5
        go_wp2_with fail
        go_loopw [7] (fun v7 wr => ∃ i : Nat, i ≤ s.size ∧ v7 = .int .i64 (i : Int) ∧ Aside0 (∀ j : Nat, j < i → l[j]? = some 46 → gv n (l.set j 111) ≠ 111) ∧ Aside0 (Below w5.heap.size w5 wr)) (fun v _ => s.size - (intOf v).toNat)
        case atStart => exact ⟨0, Nat.zero_le _, rfl, ⟨fun j h => absurd h (by omega)⟩, ⟨Below.refl _ _⟩⟩
        case round =>
          obtain ⟨i, hi, rfl, HJ, HBw⟩ := hrel
          have HBW := Aside0.mk (below_then HB5.out HB5.out.size HBw.out)
          by_cases his : i < s.size
          · have g1 : decide ((i : Int) < (s.size : Int)) = true := decide_eq_true (by omega)
            have g2 : decide (i < s.size) = true := decide_eq_true his
            have u0 : (0 : Int) ≤ (i : Int) := by omega
            have u1 : (i : Int) < (s.size : Int) := by omega
            obtain ⟨vy, hvy⟩ : ∃ v : Int, ((s[i]'his).toNat : Int) = v := ⟨_, rfl⟩
            have iy := idx_at his hvy
            have hby := HByte.out i his
            rw [hvy] at hby
            have HBY := Aside0.mk hby
            clear hvy hby
            by_cases h46 : vy = 46
            · have q1 : (vy == 46) = true := beq_iff_eq.2 h46
              have hl46 := HBY.out.1 h46
              obtain ⟨s2, hs2, hcall⟩ := HIH.out i 111 his hl46 (.inr rfl)
              obtain ⟨A, hA⟩ : ∃ A, s.extract 0 i = A := ⟨_, rfl⟩
              obtain ⟨B, hB⟩ : ∃ B, s.extract (i + 1) s.size = B := ⟨_, rfl⟩
              rw [hA, hB] at hs2
              have hAz : A.size = i := by rw [← hA, ByteArray.size_extract]; omega
              have hBz : B.size = s.size - (i + 1) := by rw [← hB, ByteArray.size_extract]; omega
              have z1 : A.size + 1 ≤ 9223372036854775807 := by omega
              have z2 : A.size + 1 + B.size ≤ 9223372036854775807 := by omega
              have hil0 : i ≤ s.size := by omega
              have hil1 : i + 1 ≤ s.size := by omega
              have u2 : (i : Int) + 1 ≤ (s.size : Int) := by omega
              have u3 : (0 : Int) ≤ (i : Int) + 1 := by omega
              have z3 : ¬ 9223372036854775807 < A.size + 1 := by omega
              have z4 : ¬ 9223372036854775807 < A.size + 1 + B.size := by omega
              have hcv : (convert 60 9 (.slice (some ⟨wr.heap.size, 0, none⟩) 1 1)).run Tryd.prog (wr.alloc (.cells #[.int .u8 111] 5)).drew = .ok (.string ⟨#[111]⟩) (wr.alloc (.cells #[.int .u8 111] 5)).drew := conv1d wr 111
              have wi : IntKind.i64.wrap ((i : Int) + 1) = (i : Int) + 1 := by rw [IntWalk.i64_left]; exact wr_small (by omega) (by omega)
              have HCall := Aside0.mk hcall
              have HL46 := Aside0.mk hl46
              have HGc := HGC.out i 111
              obtain ⟨g2', hg2⟩ : ∃ g, gv n (l.set i 111) = g := ⟨_, rfl⟩
              rw [hg2] at HCall HGc
              have HG2 := Aside0.mk hg2
              clear h46 hl46 hcall hAz hBz hg2
              go_wp2_with fail
              go_upto_region 12 with fail
              refine wp_region_held_drew (S := fun _ => True) (by kernel_rfl) ?_ (fun hHeld => ?_)
              · exact trivial
              refine wpAnyH_takeL (i := 0) (v := ?_) rfl (by kernel_rfl) (by kernel_rfl) (by kernel_rfl) (fun _ _ _ h => h) (Or.inl ⟨by rfl, ?_⟩) hHeld ?_
              rotate_left
              · intro w hSw
                (try dsimp only at hSw)
                go_simp
                all_goals with_reducible rfl
              try simp only [Act.put, List.setIfInBounds_toArray, List.set_cons_zero, List.set_cons_succ]
              refine wpAnyH_takeL (i := 1) (v := ?_) rfl (by kernel_rfl) (by kernel_rfl) (by kernel_rfl) (fun _ _ _ h => h) (Or.inl ⟨by rfl, ?_⟩) hHeld ?_
              rotate_left
              · intro w hSw
                (try dsimp only at hSw)
                go_simp
                all_goals with_reducible rfl
              try simp only [Act.put, List.setIfInBounds_toArray, List.set_cons_zero, List.set_cons_succ]
              refine wpAnyH_takeL (i := 2) (v := ?_) rfl (by kernel_rfl) (by kernel_rfl) (by kernel_rfl) (fun _ _ _ h => h) (Or.inl ⟨by rfl, ?_⟩) hHeld ?_
              rotate_left
              · intro w hSw
                (try dsimp only at hSw)
                go_simp
                all_goals with_reducible rfl
              try simp only [Act.put, List.setIfInBounds_toArray, List.set_cons_zero, List.set_cons_succ]
              refine wpAnyH_takeL (i := 3) (v := ?_) rfl (by kernel_rfl) (by kernel_rfl) (by kernel_rfl) (fun _ _ _ h => h) (Or.inl ⟨by rfl, ?_⟩) hHeld ?_
              rotate_left
              · intro w hSw
                (try dsimp only at hSw)
                go_simp
                all_goals with_reducible rfl
              try simp only [Act.put, List.setIfInBounds_toArray, List.set_cons_zero, List.set_cons_succ]
              refine wpAnyH_takeL (i := 4) (v := ?_) rfl (by kernel_rfl) (by kernel_rfl) (by kernel_rfl) (fun _ _ _ h => h) (Or.inl ⟨by rfl, ?_⟩) hHeld ?_
              rotate_left
              · intro w hSw
                (try dsimp only at hSw)
                go_simp
                all_goals with_reducible rfl
              try simp only [Act.put, List.setIfInBounds_toArray, List.set_cons_zero, List.set_cons_succ]
              refine wpAnyH_takeL (i := 5) (v := ?_) rfl (by kernel_rfl) (by kernel_rfl) (by kernel_rfl) (fun _ _ _ h => h) (Or.inl ⟨by rfl, ?_⟩) hHeld ?_
              rotate_left
              · intro w hSw
                (try dsimp only at hSw)
                go_simp
                all_goals with_reducible rfl
              try simp only [Act.put, List.setIfInBounds_toArray, List.set_cons_zero, List.set_cons_succ]
              refine wpAnyH_takeL (i := 6) (v := ?_) rfl (by kernel_rfl) (by kernel_rfl) (by kernel_rfl) (fun _ _ _ h => h) (Or.inl ⟨by rfl, ?_⟩) hHeld ?_
              rotate_left
              · intro w hSw
                (try dsimp only at hSw)
                go_simp
                all_goals with_reducible rfl
              try simp only [Act.put, List.setIfInBounds_toArray, List.set_cons_zero, List.set_cons_succ]
              refine wpAnyH_takeL (i := 7) (v := ?_) rfl (by kernel_rfl) (by kernel_rfl) (by kernel_rfl) (fun _ _ _ h => h) (Or.inl ⟨by rfl, ?_⟩) hHeld ?_
              rotate_left
              · intro w hSw
                (try dsimp only at hSw)
                go_simp
                all_goals with_reducible rfl
              try simp only [Act.put, List.setIfInBounds_toArray, List.set_cons_zero, List.set_cons_succ]
              refine wpAnyH_takeL (i := 8) (v := ?_) rfl (by kernel_rfl) (by kernel_rfl) (by kernel_rfl) (fun _ _ _ h => h) (Or.inl ⟨by rfl, ?_⟩) hHeld ?_
              rotate_left
              · intro w hSw
                (try dsimp only at hSw)
                go_simp
                all_goals with_reducible rfl
              try simp only [Act.put, List.setIfInBounds_toArray, List.set_cons_zero, List.set_cons_succ]
              refine wpAnyH_takeL (i := 9) (v := ?_) rfl (by kernel_rfl) (by kernel_rfl) (by kernel_rfl) (fun _ _ _ h => h) (Or.inl ⟨by rfl, ?_⟩) hHeld ?_
              rotate_left
              · intro w hSw
                (try dsimp only at hSw)
                go_simp
                all_goals with_reducible rfl
              try simp only [Act.put, List.setIfInBounds_toArray, List.set_cons_zero, List.set_cons_succ]
              refine wpAnyH_takeL (i := 13) (v := ?_) rfl (by kernel_rfl) (by kernel_rfl) (by kernel_rfl) (fun _ _ _ h => h) (Or.inl ⟨by rfl, ?_⟩) hHeld ?_
              rotate_left
              · intro w hSw
                (try dsimp only at hSw)
                go_simp
                all_goals with_reducible rfl
              try simp only [Act.put, List.setIfInBounds_toArray, List.set_cons_zero, List.set_cons_succ]
              refine wpAnyH_takeL (i := 14) (v := ?_) rfl (by kernel_rfl) (by kernel_rfl) (by kernel_rfl) (fun _ _ _ h => h) (Or.inl ⟨by rfl, ?_⟩) hHeld ?_
              rotate_left
              · intro w hSw
                (try dsimp only at hSw)
                go_simp
                all_goals with_reducible rfl
              try simp only [Act.put, List.setIfInBounds_toArray, List.set_cons_zero, List.set_cons_succ]
              refine wpAnyH_takeL (i := 15) (v := ?_) rfl (by kernel_rfl) (by kernel_rfl) (by kernel_rfl) (fun _ _ _ h => h) (Or.inl ⟨by rfl, ?_⟩) hHeld ?_
              rotate_left
              · intro w hSw
                (try dsimp only at hSw)
                go_simp
                all_goals with_reducible rfl
              try simp only [Act.put, List.setIfInBounds_toArray, List.set_cons_zero, List.set_cons_succ]
              refine wpAnyH_takeL (i := 16) (v := ?_) rfl (by kernel_rfl) (by kernel_rfl) (by kernel_rfl) (fun _ _ _ h => h) (Or.inl ⟨by rfl, ?_⟩) hHeld ?_
              rotate_left
              · intro w hSw
                (try dsimp only at hSw)
                go_simp
                all_goals with_reducible rfl
              try simp only [Act.put, List.setIfInBounds_toArray, List.set_cons_zero, List.set_cons_succ]
              refine wpAnyH_takeL (i := 19) (v := ?_) rfl (by kernel_rfl) (by kernel_rfl) (by kernel_rfl) (fun _ _ _ h => h) (Or.inl ⟨by rfl, ?_⟩) hHeld ?_
              rotate_left
              · intro w hSw
                (try dsimp only at hSw)
                go_simp
                all_goals with_reducible rfl
              try simp only [Act.put, List.setIfInBounds_toArray, List.set_cons_zero, List.set_cons_succ]
              refine wpAnyH_ready (rs := [10]) (by kernel_rfl) (by simp) (AllReadyH.consL rfl (fun K hK => ?_) AllReadyH.nil)
              go_simp
              refine hK.out _ _ ?_ (fun hHeld => ?_)
              · exact trivial
              clear hK K
              try simp only [Act.put, List.setIfInBounds_toArray, List.set_cons_zero, List.set_cons_succ]
              refine wpAnyH_ready (rs := [11]) (by kernel_rfl) (by simp) (AllReadyH.consL rfl (fun K hK => ?_) AllReadyH.nil)
              go_simp
              refine hK.out _ _ ?_ (fun hHeld => ?_)
              · exact trivial
              clear hK K
              try simp only [Act.put, List.setIfInBounds_toArray, List.set_cons_zero, List.set_cons_succ]
              refine wpAnyH_takeL (i := 12) (v := ?_) rfl (by kernel_rfl) (by kernel_rfl) (by kernel_rfl) (fun _ _ _ h => h) (Or.inl ⟨by rfl, ?_⟩) hHeld ?_
              rotate_left
              · intro w hSw
                (try dsimp only at hSw)
                go_simp
                all_goals with_reducible rfl
              try simp only [Act.put, List.setIfInBounds_toArray, List.set_cons_zero, List.set_cons_succ]
              refine wpAnyH_takeL (i := 17) (v := ?_) rfl (by kernel_rfl) (by kernel_rfl) (by kernel_rfl) (fun _ _ _ h => h) (Or.inl ⟨by rfl, ?_⟩) hHeld ?_
              rotate_left
              · intro w hSw
                (try dsimp only at hSw)
                go_simp
                all_goals with_reducible rfl
              try simp only [Act.put, List.setIfInBounds_toArray, List.set_cons_zero, List.set_cons_succ]
              refine wpAnyH_ready (rs := [18]) (by kernel_rfl) (by simp) (AllReadyH.consL rfl (fun K hK => ?_) AllReadyH.nil)
              go_simp
              refine (HCall.out _).mono ?_
              rintro e w8 ⟨rfl, hb8⟩
              refine hK.out _ _ ?_ (fun hHeld => ?_)
              · exact trivial
              clear hK K
              try simp only [Act.put, List.setIfInBounds_toArray, List.set_cons_zero, List.set_cons_succ]
              refine wpAnyH_takeL (i := 20) (v := ?_) rfl (by kernel_rfl) (by kernel_rfl) (by kernel_rfl) (fun _ _ _ h => h) (Or.inl ⟨by rfl, ?_⟩) hHeld ?_
              rotate_left
              · intro w hSw
                (try dsimp only at hSw)
                go_simp
                all_goals with_reducible rfl
              try simp only [Act.put, List.setIfInBounds_toArray, List.set_cons_zero, List.set_cons_succ]
              refine wpAnyH_takeL (i := 21) (v := ?_) rfl (by kernel_rfl) (by kernel_rfl) (by kernel_rfl) (fun _ _ _ h => h) (Or.inl ⟨by rfl, ?_⟩) hHeld ?_
              rotate_left
              · intro w hSw
                (try dsimp only at hSw)
                go_simp
                all_goals with_reducible rfl
              try simp only [Act.put, List.setIfInBounds_toArray, List.set_cons_zero, List.set_cons_succ]
              refine wpAnyH_done (by kernel_rfl) ?_ _
              all_goals
                have HB8 : Aside0 (Below w5.heap.size w5 w8) := ⟨by first | exact below_then (below_drew (below_alloc HBw.out _)) (below_drew (below_alloc HBw.out _)).size hb8 | exact below_then (below_alloc (below_drew HBw.out) _) (below_alloc (below_drew HBw.out) _).size hb8 | exact below_then (below_alloc HBw.out _) (below_alloc HBw.out _).size hb8⟩
                clear hb8
                by_cases hgc : g2' = 111
                · subst hgc
                  have hfin : gr = 111 := by rw [← HGR.out]; exact HMv.out i 111 HNX.out HL46.out HG2.out
                  have HFin := Aside0.mk hfin
                  clear hfin HGc
                  go_wp2_with fail
                  go_ret
                  exact ⟨by rw [HFin.out]; rfl, below_then HB5.out HB5.out.size HB8.out⟩
                · have q5 : (g2' == 111) = false := beq_eq_false_iff_ne.2 hgc
                  have HJ2 : Aside0 (∀ j : Nat, j < i + 1 → l[j]? = some 46 → gv n (l.set j 111) ≠ 111) := ⟨fun j hj hj46 => by
                    rcases Nat.lt_or_ge j i with h | h
                    · exact HJ.out j h hj46
                    · obtain rfl : j = i := by omega
                      rw [HG2.out]
                      exact hgc⟩
                  clear hgc HGc
                  go_wp2_with fail
                  go_roundw
                  case rel => exact ⟨i + 1, his, by go_num, HJ2, HB8⟩
                  case measure => simp [intOf]; omega
            · have q1 : (vy == 46) = false := beq_eq_false_iff_ne.2 h46
              have HJ2 : Aside0 (∀ j : Nat, j < i + 1 → l[j]? = some 46 → gv n (l.set j 111) ≠ 111) := ⟨fun j hj hj46 => by
                rcases Nat.lt_or_ge j i with h | h
                · exact HJ.out j h hj46
                · obtain rfl : j = i := by omega
                  exact absurd (HBY.out.2 hj46) h46⟩
              clear h46
              go_wp2_with fail
              go_quiet (fail)
              go_wp2_with fail
              go_roundw
              case rel => exact ⟨i + 1, his, by go_num, HJ2, ⟨pw_below_drewN HBw.out nq⟩⟩
              case measure => simp [intOf]; omega
          · have g1 : decide ((i : Int) < (s.size : Int)) = false := decide_eq_false (by omega)
            have g2 : decide (i < s.size) = false := decide_eq_false his
            have hfin : gr = 120 := by
              rw [← HGR.out]
              refine HNo.out 111 HNX.out fun j hj => HJ.out j ?_ hj
              have := (List.getElem?_eq_some_iff.1 hj).1
              rw [← HLs.out] at this
              omega
            have HFin := Aside0.mk hfin
            clear hfin
            go_wp2_with fail
            go_ret
            exact ⟨by rw [HFin.out]; rfl, HBW.out⟩
      · rw [if_neg hc] at hnx
        have HNX := Aside0.mk hnx
        have d1 : decide ((co : Int) < (cx : Int)) = false := decide_eq_false (by omega)
        have d2 : decide (co < cx) = false := decide_eq_false (by omega)
        obtain ⟨gr, hgr⟩ : ∃ g, gv n l = g := ⟨_, rfl⟩
        rw [hgr]
        have HGR := Aside0.mk hgr
        clear hnx hc hgr
        go_enter Tryd.func45, Tryd.ntmps45
        go_wp2_with fail
        refine (HXX.out w).mono ?_
        rintro e w2 ⟨v, rfl, hR, hb2⟩
        obtain ⟨A0, c0, rfl⟩ := rnil hR
        have HB2 := Aside0.mk hb2
        clear hb2 hR
        go_wp2_with fail
        refine (HYY.out w2).mono ?_
        rintro e w3 ⟨v, rfl, hR, hb3⟩
        obtain ⟨A1, c1, rfl⟩ := rnil hR
        have HB3 := Aside0.mk (below_then HB2.out HB2.out.size hb3)
        clear hb3 hR
        go_wp2_with fail
        refine (HM1.out w3).mono ?_
        rintro e w4 ⟨rfl, hb4⟩
        have HB4 := Aside0.mk (below_then HB3.out HB3.out.size hb4)
        clear hb4
        go_wp2_with fail
        refine (HM2.out w4).mono ?_
        rintro e w5 ⟨rfl, hb5⟩
        have HB5 := Aside0.mk (below_then HB4.out HB4.out.size hb5)
        clear hb5
        go_wp2_with fail
        go_loopw [7] (fun v7 wr => ∃ i : Nat, i ≤ s.size ∧ v7 = .int .i64 (i : Int) ∧ Aside0 (∀ j : Nat, j < i → l[j]? = some 46 → gv n (l.set j 120) ≠ 120) ∧ Aside0 (Below w5.heap.size w5 wr)) (fun v _ => s.size - (intOf v).toNat)
        case atStart => exact ⟨0, Nat.zero_le _, rfl, ⟨fun j h => absurd h (by omega)⟩, ⟨Below.refl _ _⟩⟩
        case round =>
          obtain ⟨i, hi, rfl, HJ, HBw⟩ := hrel
          have HBW := Aside0.mk (below_then HB5.out HB5.out.size HBw.out)
          by_cases his : i < s.size
          · have g1 : decide ((i : Int) < (s.size : Int)) = true := decide_eq_true (by omega)
            have g2 : decide (i < s.size) = true := decide_eq_true his
            have u0 : (0 : Int) ≤ (i : Int) := by omega
            have u1 : (i : Int) < (s.size : Int) := by omega
            obtain ⟨vy, hvy⟩ : ∃ v : Int, ((s[i]'his).toNat : Int) = v := ⟨_, rfl⟩
            have iy := idx_at his hvy
            have hby := HByte.out i his
            rw [hvy] at hby
            have HBY := Aside0.mk hby
            clear hvy hby
            by_cases h46 : vy = 46
            · have q1 : (vy == 46) = true := beq_iff_eq.2 h46
              have hl46 := HBY.out.1 h46
              obtain ⟨s2, hs2, hcall⟩ := HIH.out i 120 his hl46 (.inl rfl)
              obtain ⟨A, hA⟩ : ∃ A, s.extract 0 i = A := ⟨_, rfl⟩
              obtain ⟨B, hB⟩ : ∃ B, s.extract (i + 1) s.size = B := ⟨_, rfl⟩
              rw [hA, hB] at hs2
              have hAz : A.size = i := by rw [← hA, ByteArray.size_extract]; omega
              have hBz : B.size = s.size - (i + 1) := by rw [← hB, ByteArray.size_extract]; omega
              have z1 : A.size + 1 ≤ 9223372036854775807 := by omega
              have z2 : A.size + 1 + B.size ≤ 9223372036854775807 := by omega
              have hil0 : i ≤ s.size := by omega
              have hil1 : i + 1 ≤ s.size := by omega
              have u2 : (i : Int) + 1 ≤ (s.size : Int) := by omega
              have u3 : (0 : Int) ≤ (i : Int) + 1 := by omega
              have z3 : ¬ 9223372036854775807 < A.size + 1 := by omega
              have z4 : ¬ 9223372036854775807 < A.size + 1 + B.size := by omega
              have hcv : (convert 60 9 (.slice (some ⟨wr.heap.size, 0, none⟩) 1 1)).run Tryd.prog (wr.alloc (.cells #[.int .u8 120] 5)).drew = .ok (.string ⟨#[120]⟩) (wr.alloc (.cells #[.int .u8 120] 5)).drew := conv1d wr 120
              have wi : IntKind.i64.wrap ((i : Int) + 1) = (i : Int) + 1 := by rw [IntWalk.i64_left]; exact wr_small (by omega) (by omega)
              have HCall := Aside0.mk hcall
              have HL46 := Aside0.mk hl46
              have HGc := HGC.out i 120
              obtain ⟨g2', hg2⟩ : ∃ g, gv n (l.set i 120) = g := ⟨_, rfl⟩
              rw [hg2] at HCall HGc
              have HG2 := Aside0.mk hg2
              clear h46 hl46 hcall hAz hBz hg2
              go_wp2_with fail
              go_upto_region 12 with fail
              refine wp_region_held_drew (S := fun _ => True) (by kernel_rfl) ?_ (fun hHeld => ?_)
              · exact trivial
              refine wpAnyH_takeL (i := 0) (v := ?_) rfl (by kernel_rfl) (by kernel_rfl) (by kernel_rfl) (fun _ _ _ h => h) (Or.inl ⟨by rfl, ?_⟩) hHeld ?_
              rotate_left
              · intro w hSw
                (try dsimp only at hSw)
                go_simp
                all_goals with_reducible rfl
              try simp only [Act.put, List.setIfInBounds_toArray, List.set_cons_zero, List.set_cons_succ]
              refine wpAnyH_takeL (i := 1) (v := ?_) rfl (by kernel_rfl) (by kernel_rfl) (by kernel_rfl) (fun _ _ _ h => h) (Or.inl ⟨by rfl, ?_⟩) hHeld ?_
              rotate_left
              · intro w hSw
                (try dsimp only at hSw)
                go_simp
                all_goals with_reducible rfl
              try simp only [Act.put, List.setIfInBounds_toArray, List.set_cons_zero, List.set_cons_succ]
              refine wpAnyH_takeL (i := 2) (v := ?_) rfl (by kernel_rfl) (by kernel_rfl) (by kernel_rfl) (fun _ _ _ h => h) (Or.inl ⟨by rfl, ?_⟩) hHeld ?_
              rotate_left
              · intro w hSw
                (try dsimp only at hSw)
                go_simp
                all_goals with_reducible rfl
              try simp only [Act.put, List.setIfInBounds_toArray, List.set_cons_zero, List.set_cons_succ]
              refine wpAnyH_takeL (i := 3) (v := ?_) rfl (by kernel_rfl) (by kernel_rfl) (by kernel_rfl) (fun _ _ _ h => h) (Or.inl ⟨by rfl, ?_⟩) hHeld ?_
              rotate_left
              · intro w hSw
                (try dsimp only at hSw)
                go_simp
                all_goals with_reducible rfl
              try simp only [Act.put, List.setIfInBounds_toArray, List.set_cons_zero, List.set_cons_succ]
              refine wpAnyH_takeL (i := 4) (v := ?_) rfl (by kernel_rfl) (by kernel_rfl) (by kernel_rfl) (fun _ _ _ h => h) (Or.inl ⟨by rfl, ?_⟩) hHeld ?_
              rotate_left
              · intro w hSw
                (try dsimp only at hSw)
                go_simp
                all_goals with_reducible rfl
              try simp only [Act.put, List.setIfInBounds_toArray, List.set_cons_zero, List.set_cons_succ]
              refine wpAnyH_takeL (i := 5) (v := ?_) rfl (by kernel_rfl) (by kernel_rfl) (by kernel_rfl) (fun _ _ _ h => h) (Or.inl ⟨by rfl, ?_⟩) hHeld ?_
              rotate_left
              · intro w hSw
                (try dsimp only at hSw)
                go_simp
                all_goals with_reducible rfl
              try simp only [Act.put, List.setIfInBounds_toArray, List.set_cons_zero, List.set_cons_succ]
              refine wpAnyH_takeL (i := 6) (v := ?_) rfl (by kernel_rfl) (by kernel_rfl) (by kernel_rfl) (fun _ _ _ h => h) (Or.inl ⟨by rfl, ?_⟩) hHeld ?_
              rotate_left
              · intro w hSw
                (try dsimp only at hSw)
                go_simp
                all_goals with_reducible rfl
              try simp only [Act.put, List.setIfInBounds_toArray, List.set_cons_zero, List.set_cons_succ]
              refine wpAnyH_takeL (i := 7) (v := ?_) rfl (by kernel_rfl) (by kernel_rfl) (by kernel_rfl) (fun _ _ _ h => h) (Or.inl ⟨by rfl, ?_⟩) hHeld ?_
              rotate_left
              · intro w hSw
                (try dsimp only at hSw)
                go_simp
                all_goals with_reducible rfl
              try simp only [Act.put, List.setIfInBounds_toArray, List.set_cons_zero, List.set_cons_succ]
              refine wpAnyH_takeL (i := 8) (v := ?_) rfl (by kernel_rfl) (by kernel_rfl) (by kernel_rfl) (fun _ _ _ h => h) (Or.inl ⟨by rfl, ?_⟩) hHeld ?_
              rotate_left
              · intro w hSw
                (try dsimp only at hSw)
                go_simp
                all_goals with_reducible rfl
              try simp only [Act.put, List.setIfInBounds_toArray, List.set_cons_zero, List.set_cons_succ]
              refine wpAnyH_takeL (i := 9) (v := ?_) rfl (by kernel_rfl) (by kernel_rfl) (by kernel_rfl) (fun _ _ _ h => h) (Or.inl ⟨by rfl, ?_⟩) hHeld ?_
              rotate_left
              · intro w hSw
                (try dsimp only at hSw)
                go_simp
                all_goals with_reducible rfl
              try simp only [Act.put, List.setIfInBounds_toArray, List.set_cons_zero, List.set_cons_succ]
              refine wpAnyH_takeL (i := 13) (v := ?_) rfl (by kernel_rfl) (by kernel_rfl) (by kernel_rfl) (fun _ _ _ h => h) (Or.inl ⟨by rfl, ?_⟩) hHeld ?_
              rotate_left
              · intro w hSw
                (try dsimp only at hSw)
                go_simp
                all_goals with_reducible rfl
              try simp only [Act.put, List.setIfInBounds_toArray, List.set_cons_zero, List.set_cons_succ]
              refine wpAnyH_takeL (i := 14) (v := ?_) rfl (by kernel_rfl) (by kernel_rfl) (by kernel_rfl) (fun _ _ _ h => h) (Or.inl ⟨by rfl, ?_⟩) hHeld ?_
              rotate_left
              · intro w hSw
                (try dsimp only at hSw)
                go_simp
                all_goals with_reducible rfl
              try simp only [Act.put, List.setIfInBounds_toArray, List.set_cons_zero, List.set_cons_succ]
              refine wpAnyH_takeL (i := 15) (v := ?_) rfl (by kernel_rfl) (by kernel_rfl) (by kernel_rfl) (fun _ _ _ h => h) (Or.inl ⟨by rfl, ?_⟩) hHeld ?_
              rotate_left
              · intro w hSw
                (try dsimp only at hSw)
                go_simp
                all_goals with_reducible rfl
              try simp only [Act.put, List.setIfInBounds_toArray, List.set_cons_zero, List.set_cons_succ]
              refine wpAnyH_takeL (i := 16) (v := ?_) rfl (by kernel_rfl) (by kernel_rfl) (by kernel_rfl) (fun _ _ _ h => h) (Or.inl ⟨by rfl, ?_⟩) hHeld ?_
              rotate_left
              · intro w hSw
                (try dsimp only at hSw)
                go_simp
                all_goals with_reducible rfl
              try simp only [Act.put, List.setIfInBounds_toArray, List.set_cons_zero, List.set_cons_succ]
              refine wpAnyH_takeL (i := 19) (v := ?_) rfl (by kernel_rfl) (by kernel_rfl) (by kernel_rfl) (fun _ _ _ h => h) (Or.inl ⟨by rfl, ?_⟩) hHeld ?_
              rotate_left
              · intro w hSw
                (try dsimp only at hSw)
                go_simp
                all_goals with_reducible rfl
              try simp only [Act.put, List.setIfInBounds_toArray, List.set_cons_zero, List.set_cons_succ]
              refine wpAnyH_ready (rs := [10]) (by kernel_rfl) (by simp) (AllReadyH.consL rfl (fun K hK => ?_) AllReadyH.nil)
              go_simp
              refine hK.out _ _ ?_ (fun hHeld => ?_)
              · exact trivial
              clear hK K
              try simp only [Act.put, List.setIfInBounds_toArray, List.set_cons_zero, List.set_cons_succ]
              refine wpAnyH_ready (rs := [11]) (by kernel_rfl) (by simp) (AllReadyH.consL rfl (fun K hK => ?_) AllReadyH.nil)
              go_simp
              refine hK.out _ _ ?_ (fun hHeld => ?_)
              · exact trivial
              clear hK K
              try simp only [Act.put, List.setIfInBounds_toArray, List.set_cons_zero, List.set_cons_succ]
              refine wpAnyH_takeL (i := 12) (v := ?_) rfl (by kernel_rfl) (by kernel_rfl) (by kernel_rfl) (fun _ _ _ h => h) (Or.inl ⟨by rfl, ?_⟩) hHeld ?_
              rotate_left
              · intro w hSw
                (try dsimp only at hSw)
                go_simp
                all_goals with_reducible rfl
              try simp only [Act.put, List.setIfInBounds_toArray, List.set_cons_zero, List.set_cons_succ]
              refine wpAnyH_takeL (i := 17) (v := ?_) rfl (by kernel_rfl) (by kernel_rfl) (by kernel_rfl) (fun _ _ _ h => h) (Or.inl ⟨by rfl, ?_⟩) hHeld ?_
              rotate_left
              · intro w hSw
                (try dsimp only at hSw)
                go_simp
                all_goals with_reducible rfl
              try simp only [Act.put, List.setIfInBounds_toArray, List.set_cons_zero, List.set_cons_succ]
              refine wpAnyH_ready (rs := [18]) (by kernel_rfl) (by simp) (AllReadyH.consL rfl (fun K hK => ?_) AllReadyH.nil)
              go_simp
              refine (HCall.out _).mono ?_
              rintro e w8 ⟨rfl, hb8⟩
              refine hK.out _ _ ?_ (fun hHeld => ?_)
              · exact trivial
              clear hK K
              try simp only [Act.put, List.setIfInBounds_toArray, List.set_cons_zero, List.set_cons_succ]
              refine wpAnyH_takeL (i := 20) (v := ?_) rfl (by kernel_rfl) (by kernel_rfl) (by kernel_rfl) (fun _ _ _ h => h) (Or.inl ⟨by rfl, ?_⟩) hHeld ?_
              rotate_left
              · intro w hSw
                (try dsimp only at hSw)
                go_simp
                all_goals with_reducible rfl
              try simp only [Act.put, List.setIfInBounds_toArray, List.set_cons_zero, List.set_cons_succ]
              refine wpAnyH_takeL (i := 21) (v := ?_) rfl (by kernel_rfl) (by kernel_rfl) (by kernel_rfl) (fun _ _ _ h => h) (Or.inl ⟨by rfl, ?_⟩) hHeld ?_
              rotate_left
              · intro w hSw
                (try dsimp only at hSw)
                go_simp
                all_goals with_reducible rfl
              try simp only [Act.put, List.setIfInBounds_toArray, List.set_cons_zero, List.set_cons_succ]
              refine wpAnyH_done (by kernel_rfl) ?_ _
              all_goals
                have HB8 : Aside0 (Below w5.heap.size w5 w8) := ⟨by first | exact below_then (below_drew (below_alloc HBw.out _)) (below_drew (below_alloc HBw.out _)).size hb8 | exact below_then (below_alloc (below_drew HBw.out) _) (below_alloc (below_drew HBw.out) _).size hb8 | exact below_then (below_alloc HBw.out _) (below_alloc HBw.out _).size hb8⟩
                clear hb8
                by_cases hgc : g2' = 120
                · subst hgc
                  have hfin : gr = 120 := by rw [← HGR.out]; exact HMv.out i 120 HNX.out HL46.out HG2.out
                  have HFin := Aside0.mk hfin
                  clear hfin HGc
                  go_wp2_with fail
                  go_ret
                  exact ⟨by rw [HFin.out]; rfl, below_then HB5.out HB5.out.size HB8.out⟩
                · have q5 : (g2' == 120) = false := beq_eq_false_iff_ne.2 hgc
                  have HJ2 : Aside0 (∀ j : Nat, j < i + 1 → l[j]? = some 46 → gv n (l.set j 120) ≠ 120) := ⟨fun j hj hj46 => by
                    rcases Nat.lt_or_ge j i with h | h
                    · exact HJ.out j h hj46
                    · obtain rfl : j = i := by omega
                      rw [HG2.out]
                      exact hgc⟩
                  clear hgc HGc
                  go_wp2_with fail
                  go_roundw
                  case rel => exact ⟨i + 1, his, by go_num, HJ2, HB8⟩
                  case measure => simp [intOf]; omega
            · have q1 : (vy == 46) = false := beq_eq_false_iff_ne.2 h46
              have HJ2 : Aside0 (∀ j : Nat, j < i + 1 → l[j]? = some 46 → gv n (l.set j 120) ≠ 120) := ⟨fun j hj hj46 => by
                rcases Nat.lt_or_ge j i with h | h
                · exact HJ.out j h hj46
                · obtain rfl : j = i := by omega
                  exact absurd (HBY.out.2 hj46) h46⟩
              clear h46
              go_wp2_with fail
              go_quiet (fail)
              go_wp2_with fail
              go_roundw
              case rel => exact ⟨i + 1, his, by go_num, HJ2, ⟨pw_below_drewN HBw.out nq⟩⟩
              case measure => simp [intOf]; omega
          · have g1 : decide ((i : Int) < (s.size : Int)) = false := decide_eq_false (by omega)
            have g2 : decide (i < s.size) = false := decide_eq_false his
            have hfin : gr = 111 := by
              rw [← HGR.out]
              refine HNo.out 120 HNX.out fun j hj => HJ.out j ?_ hj
              have := (List.getElem?_eq_some_iff.1 hj).1
              rw [← HLs.out] at this
              omega
            have HFin := Aside0.mk hfin
            clear hfin
            go_wp2_with fail
            go_ret
            exact ⟨by rw [HFin.out]; rfl, HBW.out⟩
theorem rwins_any (n : Nat) (hn : 1 ≤ n) (h11 : n ≤ 11) : ∀ k, RW n k
  | 0 => rwins_at n 0 hn h11 (fun k' h => absurd h (by omega))
  | k + 1 => rwins_at n (k + 1) hn h11 (fun k' h => by
    obtain rfl : k' = k := by omega
    exact rwins_any n hn h11 k')
end Go.Proofs.YtlmgkmmdaecpdaaDoor.Im

namespace Go.Proofs.YtlmgkmmdaecpdaaDoor.Im
open Go.RowKit Go.Proofs.YtlmgkmmdaecpdaaDoorW.PrintWords Go.Proofs.YtlmgkmmdaecpdaaDoorW.PrintLast Go.Proofs.YtlmgkmmdaecpdaaDoorW.PrintMore Go.Proofs.YtlmgkmmdaecpdaaDoor.Mi
set_option linter.unusedVariables false
set_option linter.unusedSimpArgs false
theorem wins_env {w : World} {mL : Int} (h : Env w mL) (n : Int) (s : ByteArray) (hs : s.size ≤ 9223372036854775807) (v : ByteArray) (e : Int) (hr : winsR n s = (v, e)) :
    Calls Tryd.prog 18 #[.int .i64 n, .string s] w fun x w' => x = .returned (.tuple #[.string v, .int .i64 e]) ∧ Below w.heap.size w w' := by
  refine (wins_call n s w h.st hs).mono ?_
  rintro x w' ⟨h1, h2⟩
  rw [hr] at h2
  exact ⟨h2, h1⟩
theorem board_bytes {n : Nat} {s : ByteArray} (h : boE n s xodB = 0) : 1 ≤ n ∧ s.data.toList.length = n * n ∧ ∀ b ∈ s.data.toList, b = 120 ∨ b = 111 ∨ b = 46 := by
  obtain ⟨h1, h2, h3, h4⟩ := (boE_iff (b := true)).1 h
  have hl : s.data.toList.length = s.size := Array.length_toList
  refine ⟨by omega, by rw [← Int.natCast_mul] at h3; omega, fun b hb => ?_⟩
  obtain ⟨a, ha, rfl⟩ := List.mem_iff_getElem.1 hb
  have e : (bsOf s).getD a 0 = ((s.data.toList[a]'ha).toNat : Int) := by
    unfold bsOf
    rw [List.getD, List.getElem?_map, List.getElem?_eq_getElem ha]
    rfl
  rcases h4 a (by omega) with k | k | ⟨_, k⟩
  · exact .inl (byte_eq.1 (e.symm.trans k))
  · exact .inr (.inl (byte_eq.1 (e.symm.trans k)))
  · exact .inr (.inr (byte_eq.1 (e.symm.trans k)))
end Go.Proofs.YtlmgkmmdaecpdaaDoor.Im

namespace Go.Proofs.YtlmgkmmdaecpdaaDoor.Im
open Go.RowKit Go.Proofs.YtlmgkmmdaecpdaaDoorW.PrintWords Go.Proofs.YtlmgkmmdaecpdaaDoorW.PrintLast Go.Proofs.YtlmgkmmdaecpdaaDoorW.PrintMore Go.Proofs.YtlmgkmmdaecpdaaDoor.Mi
set_option linter.unusedVariables false
set_option linter.unusedSimpArgs false
set_option maxHeartbeats 6400000 in
set_option maxRecDepth 100000 in
theorem rwins_call (n : Int) (s : ByteArray) (w : World) (hz : s.size ≤ 1000000) (v : ByteArray) (e0 : Int) (hr : winsR n s = (v, e0)) :
    Calls Tryd.prog 19 #[.int .i64 n, .string s] w fun e w' => e = .returned (.tuple #[.string v, .int .i64 e0]) ∧ Below w.heap.size w w' := by
  have HB0 := Aside0.mk (Below.refl w.heap.size w)
  obtain ⟨E, hE⟩ : ∃ E, boE n s xodB = E := ⟨_, rfl⟩
  have HBd := Aside0.mk (show Calls Tryd.prog 22 #[.int .i64 n, .string s, .bool true] w fun e w' => e = .returned (.int .i64 E) ∧ Below w.heap.size w w' from (show boE n s (csB true) = E from hE) ▸ board_any n s true w hz)
  by_cases h0 : E = 0
  · subst h0
    have hok := boE_ok hE
    obtain ⟨m, rfl⟩ : ∃ m : Nat, n = m := ⟨n.toNat, by omega⟩
    obtain ⟨hm1, hml, hmb⟩ := board_bytes hE
    have hm11 : m ≤ 11 := by omega
    have hM : m * m ≤ 121 := Nat.mul_le_mul hm11 hm11
    have HM := Aside0.mk (fun (b : UInt8) (w1 : World) => many_any s b w1 hz)
    have HM1 := Aside0.mk (fun (w1 : World) => (show Calls Tryd.prog _ #[.string s, .int .u8 120] w1 _ from HM.out 120 w1))
    have HM2 := Aside0.mk (fun (w1 : World) => (show Calls Tryd.prog _ #[.string s, .int .u8 111] w1 _ from HM.out 111 w1))
    have HM3 := Aside0.mk (fun (w1 : World) => (show Calls Tryd.prog _ #[.string s, .int .u8 46] w1 _ from HM.out 46 w1))
    have hse : (⟨s.data.toList.toArray⟩ : ByteArray) = s := rfl
    have HW := Aside0.mk (fun (w1 : World) => (show Calls Tryd.prog 45 #[.int .i64 m, .string s] w1 fun e w' => e = .returned (.int .u8 (gv m s.data.toList)) ∧ Below w1.heap.size w1 w' from rwins_any m hm1 hm11 _ s.data.toList w1 rfl hml hmb))
    have hgc := gv_cases m s.data.toList
    have h3 : (CntOk s.data.toList ∧ s.data.toList.count 46 ≤ 9 ∧ v = strW (gv m s.data.toList) ∧ e0 = 0) ∨ (CntOk s.data.toList ∧ ¬ s.data.toList.count 46 ≤ 9 ∧ v = ⟨#[]⟩ ∧ e0 = 8) ∨ (¬ CntOk s.data.toList ∧ v = ⟨#[]⟩ ∧ e0 = 9) := by
      unfold winsR at hr
      rw [if_pos hE, Int.toNat_natCast] at hr
      by_cases hcc : CntOk s.data.toList
      · rw [if_pos hcc] at hr
        by_cases h9 : s.data.toList.count 46 ≤ 9
        · rw [if_pos h9] at hr
          exact .inl ⟨hcc, h9, (Prod.mk.inj hr).1.symm, (Prod.mk.inj hr).2.symm⟩
        · rw [if_neg h9] at hr
          exact .inr (.inl ⟨hcc, h9, (Prod.mk.inj hr).1.symm, (Prod.mk.inj hr).2.symm⟩)
      · rw [if_neg hcc] at hr
        exact .inr (.inr ⟨hcc, (Prod.mk.inj hr).1.symm, (Prod.mk.inj hr).2.symm⟩)
    unfold CntOk at h3
    clear hr
    have hc1 : ∀ b : UInt8, s.data.toList.count b ≤ 121 := fun b => by have := @List.count_le_length _ _ b s.data.toList; omega
    have hcx1 := hc1 120
    have hco1 := hc1 111
    have hcd1 := hc1 46
    clear hc1 HM hse hE hok hml hmb hm1 hm11 hM
    generalize s.data.toList.count 120 = cx at *
    generalize s.data.toList.count 111 = co at *
    generalize s.data.toList.count 46 = cd at *
    generalize gv m s.data.toList = g at *
    have wc : wrap64 ((cx : Int) - (co : Int)) = (cx : Int) - (co : Int) := by unfold wrap64; omega
    obtain ⟨mo, hmo⟩ : ∃ mo : Int, (cx : Int) - (co : Int) = mo := ⟨_, rfl⟩
    rw [hmo] at wc
    rcases h3 with ⟨hcc, h9, rfl, rfl⟩ | ⟨hcc, h9, rfl, rfl⟩ | ⟨hcc, rfl, rfl⟩
    · skip
      · have d1 : decide ((9 : Int) < (cd : Int)) = false := decide_eq_false (by omega)
        have d2 : decide (9 < cd) = false := decide_eq_false (by omega)
        clear h9
        rcases hgc with rfl | rfl
        all_goals rcases hcc with hcc | hcc
        · obtain rfl : mo = 0 := by omega
          clear hcc
          rw [show strW 120 = ⟨#[120]⟩ from rfl]
          go_enter Tryd.func19, Tryd.ntmps19
          go_wp2_with fail
          refine (HBd.out).mono ?_
          rintro e w1 ⟨rfl, hb1⟩
          have HB1 := Aside0.mk (below_then HB0.out HB0.out.size hb1)
          clear hb1 HB0
          go_wp2_with fail
          refine (HM1.out w1).mono ?_
          rintro e w2 ⟨rfl, hb2⟩
          have HB2 := Aside0.mk (below_then HB1.out HB1.out.size hb2)
          clear hb2 HB1
          go_wp2_with fail
          refine (HM2.out w2).mono ?_
          rintro e w3 ⟨rfl, hb3⟩
          have HB3 := Aside0.mk (below_then HB2.out HB2.out.size hb3)
          clear hb3 HB2
          go_wp2_with fail
          refine (HM3.out w3).mono ?_
          rintro e w4 ⟨rfl, hb4⟩
          have HB4 := Aside0.mk (below_then HB3.out HB3.out.size hb4)
          clear hb4 HB3
          go_wp2_with fail
          refine (HW.out w4).mono ?_
          rintro e w5 ⟨rfl, hb5⟩
          have HB5 := Aside0.mk (below_then HB4.out HB4.out.size hb5)
          clear hb5 HB4
          have hcv := conv1 w5 120
          have hcv2 : (convert 60 9 (.slice (some ⟨w5.heap.size, 0, none⟩) 1 1)).run Tryd.prog (w5.alloc (.cells #[.int .u8 120] 5)) = .ok (.string ⟨#[120]⟩) (w5.alloc (.cells #[.int .u8 120] 5)) := hcv
          clear hcv
          go_wp2_with fail
          go_ret2
          exact ⟨rfl, below_alloc HB5.out _⟩
        · obtain rfl : mo = 1 := by omega
          clear hcc
          rw [show strW 120 = ⟨#[120]⟩ from rfl]
          go_enter Tryd.func19, Tryd.ntmps19
          go_wp2_with fail
          refine (HBd.out).mono ?_
          rintro e w1 ⟨rfl, hb1⟩
          have HB1 := Aside0.mk (below_then HB0.out HB0.out.size hb1)
          clear hb1 HB0
          go_wp2_with fail
          refine (HM1.out w1).mono ?_
          rintro e w2 ⟨rfl, hb2⟩
          have HB2 := Aside0.mk (below_then HB1.out HB1.out.size hb2)
          clear hb2 HB1
          go_wp2_with fail
          refine (HM2.out w2).mono ?_
          rintro e w3 ⟨rfl, hb3⟩
          have HB3 := Aside0.mk (below_then HB2.out HB2.out.size hb3)
          clear hb3 HB2
          go_wp2_with fail
          refine (HM3.out w3).mono ?_
          rintro e w4 ⟨rfl, hb4⟩
          have HB4 := Aside0.mk (below_then HB3.out HB3.out.size hb4)
          clear hb4 HB3
          go_wp2_with fail
          refine (HW.out w4).mono ?_
          rintro e w5 ⟨rfl, hb5⟩
          have HB5 := Aside0.mk (below_then HB4.out HB4.out.size hb5)
          clear hb5 HB4
          have hcv := conv1 w5 120
          have hcv2 : (convert 60 9 (.slice (some ⟨w5.heap.size, 0, none⟩) 1 1)).run Tryd.prog (w5.alloc (.cells #[.int .u8 120] 5)) = .ok (.string ⟨#[120]⟩) (w5.alloc (.cells #[.int .u8 120] 5)) := hcv
          clear hcv
          go_wp2_with fail
          go_ret2
          exact ⟨rfl, below_alloc HB5.out _⟩
        · obtain rfl : mo = 0 := by omega
          clear hcc
          rw [show strW 111 = ⟨#[111]⟩ from rfl]
          go_enter Tryd.func19, Tryd.ntmps19
          go_wp2_with fail
          refine (HBd.out).mono ?_
          rintro e w1 ⟨rfl, hb1⟩
          have HB1 := Aside0.mk (below_then HB0.out HB0.out.size hb1)
          clear hb1 HB0
          go_wp2_with fail
          refine (HM1.out w1).mono ?_
          rintro e w2 ⟨rfl, hb2⟩
          have HB2 := Aside0.mk (below_then HB1.out HB1.out.size hb2)
          clear hb2 HB1
          go_wp2_with fail
          refine (HM2.out w2).mono ?_
          rintro e w3 ⟨rfl, hb3⟩
          have HB3 := Aside0.mk (below_then HB2.out HB2.out.size hb3)
          clear hb3 HB2
          go_wp2_with fail
          refine (HM3.out w3).mono ?_
          rintro e w4 ⟨rfl, hb4⟩
          have HB4 := Aside0.mk (below_then HB3.out HB3.out.size hb4)
          clear hb4 HB3
          go_wp2_with fail
          refine (HW.out w4).mono ?_
          rintro e w5 ⟨rfl, hb5⟩
          have HB5 := Aside0.mk (below_then HB4.out HB4.out.size hb5)
          clear hb5 HB4
          have hcv := conv1 w5 111
          have hcv2 : (convert 60 9 (.slice (some ⟨w5.heap.size, 0, none⟩) 1 1)).run Tryd.prog (w5.alloc (.cells #[.int .u8 111] 5)) = .ok (.string ⟨#[111]⟩) (w5.alloc (.cells #[.int .u8 111] 5)) := hcv
          clear hcv
          go_wp2_with fail
          go_ret2
          exact ⟨rfl, below_alloc HB5.out _⟩
        · obtain rfl : mo = 1 := by omega
          clear hcc
          rw [show strW 111 = ⟨#[111]⟩ from rfl]
          go_enter Tryd.func19, Tryd.ntmps19
          go_wp2_with fail
          refine (HBd.out).mono ?_
          rintro e w1 ⟨rfl, hb1⟩
          have HB1 := Aside0.mk (below_then HB0.out HB0.out.size hb1)
          clear hb1 HB0
          go_wp2_with fail
          refine (HM1.out w1).mono ?_
          rintro e w2 ⟨rfl, hb2⟩
          have HB2 := Aside0.mk (below_then HB1.out HB1.out.size hb2)
          clear hb2 HB1
          go_wp2_with fail
          refine (HM2.out w2).mono ?_
          rintro e w3 ⟨rfl, hb3⟩
          have HB3 := Aside0.mk (below_then HB2.out HB2.out.size hb3)
          clear hb3 HB2
          go_wp2_with fail
          refine (HM3.out w3).mono ?_
          rintro e w4 ⟨rfl, hb4⟩
          have HB4 := Aside0.mk (below_then HB3.out HB3.out.size hb4)
          clear hb4 HB3
          go_wp2_with fail
          refine (HW.out w4).mono ?_
          rintro e w5 ⟨rfl, hb5⟩
          have HB5 := Aside0.mk (below_then HB4.out HB4.out.size hb5)
          clear hb5 HB4
          have hcv := conv1 w5 111
          have hcv2 : (convert 60 9 (.slice (some ⟨w5.heap.size, 0, none⟩) 1 1)).run Tryd.prog (w5.alloc (.cells #[.int .u8 111] 5)) = .ok (.string ⟨#[111]⟩) (w5.alloc (.cells #[.int .u8 111] 5)) := hcv
          clear hcv
          go_wp2_with fail
          go_ret2
          exact ⟨rfl, below_alloc HB5.out _⟩
    · skip
      · have d1 : decide ((9 : Int) < (cd : Int)) = true := decide_eq_true (by omega)
        have d2 : decide (9 < cd) = true := decide_eq_true (by omega)
        clear h9 hgc HW
        rcases hcc with hcc | hcc
        · obtain rfl : mo = 0 := by omega
          clear hcc
          go_enter Tryd.func19, Tryd.ntmps19
          go_wp2_with fail
          refine (HBd.out).mono ?_
          rintro e w1 ⟨rfl, hb1⟩
          have HB1 := Aside0.mk (below_then HB0.out HB0.out.size hb1)
          clear hb1 HB0
          go_wp2_with fail
          refine (HM1.out w1).mono ?_
          rintro e w2 ⟨rfl, hb2⟩
          have HB2 := Aside0.mk (below_then HB1.out HB1.out.size hb2)
          clear hb2 HB1
          go_wp2_with fail
          refine (HM2.out w2).mono ?_
          rintro e w3 ⟨rfl, hb3⟩
          have HB3 := Aside0.mk (below_then HB2.out HB2.out.size hb3)
          clear hb3 HB2
          go_wp2_with fail
          refine (HM3.out w3).mono ?_
          rintro e w4 ⟨rfl, hb4⟩
          have HB4 := Aside0.mk (below_then HB3.out HB3.out.size hb4)
          clear hb4 HB3
          go_wp2_with fail
          go_ret2
          exact ⟨rfl, HB4.out⟩
        · obtain rfl : mo = 1 := by omega
          clear hcc
          go_enter Tryd.func19, Tryd.ntmps19
          go_wp2_with fail
          refine (HBd.out).mono ?_
          rintro e w1 ⟨rfl, hb1⟩
          have HB1 := Aside0.mk (below_then HB0.out HB0.out.size hb1)
          clear hb1 HB0
          go_wp2_with fail
          refine (HM1.out w1).mono ?_
          rintro e w2 ⟨rfl, hb2⟩
          have HB2 := Aside0.mk (below_then HB1.out HB1.out.size hb2)
          clear hb2 HB1
          go_wp2_with fail
          refine (HM2.out w2).mono ?_
          rintro e w3 ⟨rfl, hb3⟩
          have HB3 := Aside0.mk (below_then HB2.out HB2.out.size hb3)
          clear hb3 HB2
          go_wp2_with fail
          refine (HM3.out w3).mono ?_
          rintro e w4 ⟨rfl, hb4⟩
          have HB4 := Aside0.mk (below_then HB3.out HB3.out.size hb4)
          clear hb4 HB3
          go_wp2_with fail
          go_ret2
          exact ⟨rfl, HB4.out⟩
    · have q1 : (mo == 0) = false := beq_eq_false_iff_ne.2 (by omega)
      have q2 : (mo == 1) = false := beq_eq_false_iff_ne.2 (by omega)
      have q3 : (mo != 0) = true := by rw [bne, q1]; rfl
      have q4 : (mo != 1) = true := by rw [bne, q2]; rfl
      clear hcc hgc HW HM3
      go_enter Tryd.func19, Tryd.ntmps19
      go_wp2_with fail
      refine (HBd.out).mono ?_
      rintro e w1 ⟨rfl, hb1⟩
      have HB1 := Aside0.mk (below_then HB0.out HB0.out.size hb1)
      clear hb1 HB0
      go_wp2_with fail
      refine (HM1.out w1).mono ?_
      rintro e w2 ⟨rfl, hb2⟩
      have HB2 := Aside0.mk (below_then HB1.out HB1.out.size hb2)
      clear hb2 HB1
      go_wp2_with fail
      refine (HM2.out w2).mono ?_
      rintro e w3 ⟨rfl, hb3⟩
      have HB3 := Aside0.mk (below_then HB2.out HB2.out.size hb3)
      clear hb3 HB2
      go_wp2_with fail
      go_ret2
      exact ⟨rfl, HB3.out⟩
  · have q0 : (E == 0) = false := beq_eq_false_iff_ne.2 h0
    unfold winsR at hr
    rw [hE, if_neg h0] at hr
    obtain ⟨rfl, rfl⟩ := Prod.mk.inj hr
    clear hE h0 hr
    go_enter Tryd.func19, Tryd.ntmps19
    go_wp2_with fail
    refine (HBd.out).mono ?_
    rintro e w1 ⟨rfl, hb1⟩
    have HB1 := Aside0.mk (below_then HB0.out HB0.out.size hb1)
    clear hb1 HB0
    go_wp2_with fail
    go_ret2
    exact ⟨rfl, HB1.out⟩
end Go.Proofs.YtlmgkmmdaecpdaaDoor.Im

namespace Go.Proofs.YtlmgkmmdaecpdaaDoor.Im
open Go.RowKit Go.Proofs.YtlmgkmmdaecpdaaDoorW.PrintWords Go.Proofs.YtlmgkmmdaecpdaaDoorW.PrintLast Go.Proofs.YtlmgkmmdaecpdaaDoorW.PrintMore Go.Proofs.YtlmgkmmdaecpdaaDoor.Mi
set_option linter.unusedVariables false
set_option linter.unusedSimpArgs false
set_option maxHeartbeats 6400000 in
set_option maxRecDepth 100000 in
theorem law_wins (n : Int) (s : ByteArray) (w0 : World) (hst : Steps w0) (mL : Int) (hm : w0.cell? ⟨1, 0, none⟩ = some (.int .i64 mL)) (hss : s.size ≤ 9223372036854775807) :
    Calls Tryd.prog 3 #[.int .i64 n, .string s] w0 fun e w' => e = .returned (.bool true) ∧ Below w0.heap.size w0 w' := by
  have HE := Aside0.mk (Env.mk hst hm)
  have HB0 := Aside0.mk (Below.refl w0.heap.size w0)
  clear hst hm
  by_cases h1 : 200 < s.size
  · have t1 : decide (200 < (s.size : Int)) = true := decide_eq_true (by omega)
    have t2 : decide (200 < s.size) = true := decide_eq_true h1
    clear h1
    go_enter Tryd.func3, Tryd.ntmps3
    go_wp2_with fail
    refine (alive_env (HE.out.later HB0.out rfl)).mono ?_
    rintro e w1 ⟨rfl, hb1⟩
    have HB1 := Aside0.mk (below_then HB0.out HB0.out.size hb1)
    clear hb1 HB0
    go_wp2_with fail
    go_ret
    exact ⟨rfl, HB1.out⟩
  have t1 : decide (200 < (s.size : Int)) = false := decide_eq_false (by omega)
  have t2 : decide (200 < s.size) = false := decide_eq_false h1
  obtain ⟨⟨v, e0⟩, hr⟩ : ∃ r, winsR n s = r := ⟨_, rfl⟩
  have HN1 := Aside0.mk (fun (w1 : World) (h : Env w1 mL) => wins_env h n s hss v e0 hr)
  have HN2 := Aside0.mk (fun (w1 : World) => rwins_call n s w1 (by omega) v e0 hr)
  have hvv : (v.toList == v.toList) = true := beq_self_eq_true _
  have HM3 := Aside0.mk (fun (w1 : World) => (show Calls Tryd.prog _ #[.string s, .int .u8 46] w1 _ from many_any s 46 w1 (by omega)))
  obtain ⟨cd, hcd⟩ : ∃ c, s.data.toList.count 46 = c := ⟨_, rfl⟩
  rw [hcd] at HM3
  clear hr h1 hcd
  by_cases o1 : 4 < n
  · have c1 : decide (4 < n) = true := decide_eq_true o1
    by_cases o2 : n ≤ 11
    · have c2 : decide (n ≤ 11) = true := decide_eq_true o2
      by_cases o3 : cd ≤ 9
      · have c3 : decide ((cd : Int) ≤ 9) = true := decide_eq_true (by omega)
        have c4 : decide (cd ≤ 9) = true := decide_eq_true o3
        clear o1 o2 o3
        go_enter Tryd.func3, Tryd.ntmps3
        go_wp2_with fail
        refine (HM3.out w0).mono ?_
        rintro e w1 ⟨rfl, hb1⟩
        have HB1 := Aside0.mk (below_then HB0.out HB0.out.size hb1)
        clear hb1 HB0
        go_wp2_with fail
        refine (alive_env (HE.out.later HB1.out rfl)).mono ?_
        rintro e w2 ⟨rfl, hb2⟩
        have HB2 := Aside0.mk (below_then HB1.out HB1.out.size hb2)
        clear hb2 HB1
        go_wp2_with fail
        go_ret
        exact ⟨rfl, HB2.out⟩
      · have c3 : decide ((cd : Int) ≤ 9) = false := decide_eq_false (by omega)
        have c4 : decide (cd ≤ 9) = false := decide_eq_false o3
        clear o1 o2 o3
        go_enter Tryd.func3, Tryd.ntmps3
        go_wp2_with fail
        refine (HM3.out w0).mono ?_
        rintro e w1 ⟨rfl, hb1⟩
        have HB1 := Aside0.mk (below_then HB0.out HB0.out.size hb1)
        clear hb1 HB0
        go_wp2_with fail
        refine (HN1.out w1 (HE.out.later HB1.out rfl)).mono ?_
        rintro e w2 ⟨rfl, hb2⟩
        have HB2 := Aside0.mk (below_then HB1.out HB1.out.size hb2)
        clear hb2 HB1
        go_wp2_with fail
        refine (HN2.out w2).mono ?_
        rintro e w3 ⟨rfl, hb3⟩
        have HB3 := Aside0.mk (below_then HB2.out HB2.out.size hb3)
        clear hb3 HB2
        go_wp2_with fail
        refine (alive_env (HE.out.later HB3.out rfl)).mono ?_
        rintro e w4 ⟨rfl, hb4⟩
        have HB4 := Aside0.mk (below_then HB3.out HB3.out.size hb4)
        clear hb4 HB3
        go_wp2_with fail
        go_ret
        exact ⟨rfl, HB4.out⟩
    · have c2 : decide (n ≤ 11) = false := decide_eq_false o2
      clear o1 o2
      go_enter Tryd.func3, Tryd.ntmps3
      go_wp2_with fail
      refine (HN1.out w0 (HE.out.later HB0.out rfl)).mono ?_
      rintro e w1 ⟨rfl, hb1⟩
      have HB1 := Aside0.mk (below_then HB0.out HB0.out.size hb1)
      clear hb1 HB0
      go_wp2_with fail
      refine (HN2.out w1).mono ?_
      rintro e w2 ⟨rfl, hb2⟩
      have HB2 := Aside0.mk (below_then HB1.out HB1.out.size hb2)
      clear hb2 HB1
      go_wp2_with fail
      refine (alive_env (HE.out.later HB2.out rfl)).mono ?_
      rintro e w3 ⟨rfl, hb3⟩
      have HB3 := Aside0.mk (below_then HB2.out HB2.out.size hb3)
      clear hb3 HB2
      go_wp2_with fail
      go_ret
      exact ⟨rfl, HB3.out⟩
  · have c1 : decide (4 < n) = false := decide_eq_false o1
    clear o1
    go_enter Tryd.func3, Tryd.ntmps3
    go_wp2_with fail
    refine (HN1.out w0 (HE.out.later HB0.out rfl)).mono ?_
    rintro e w1 ⟨rfl, hb1⟩
    have HB1 := Aside0.mk (below_then HB0.out HB0.out.size hb1)
    clear hb1 HB0
    go_wp2_with fail
    refine (HN2.out w1).mono ?_
    rintro e w2 ⟨rfl, hb2⟩
    have HB2 := Aside0.mk (below_then HB1.out HB1.out.size hb2)
    clear hb2 HB1
    go_wp2_with fail
    refine (alive_env (HE.out.later HB2.out rfl)).mono ?_
    rintro e w3 ⟨rfl, hb3⟩
    have HB3 := Aside0.mk (below_then HB2.out HB2.out.size hb3)
    clear hb3 HB2
    go_wp2_with fail
    go_ret
    exact ⟨rfl, HB3.out⟩
end Go.Proofs.YtlmgkmmdaecpdaaDoor.Im

