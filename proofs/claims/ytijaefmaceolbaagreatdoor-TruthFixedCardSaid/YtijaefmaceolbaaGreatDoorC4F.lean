/- Further parts of the same walk: contracts of the functions that the law reaches, each under the conditions that it states. -/
import Derived.Test.YtijaefmaceolbaaGreatDoorC4E
import Derived.WalkSpells
namespace Go.Proofs.YtijaefmaceolbaaGreatDoor.Im
open Go.RowKit Go.Proofs.YtijaefmaceolbaaGreatDoorW.PrintWords Go.Proofs.YtijaefmaceolbaaGreatDoorW.PrintLast Go.Proofs.YtijaefmaceolbaaGreatDoorW.PrintMore Go.Proofs.YtijaefmaceolbaaGreatDoor.Tr
set_option linter.unusedVariables false
set_option linter.unusedSimpArgs false
theorem ints_snoc (l : List Nat) (j : Nat) : ints (l ++ [j]) = ints l ++ [(j : Int)] := by simp [ints]
set_option maxHeartbeats 6400000 in
set_option maxRecDepth 100000 in
theorem cyc1_succ (ga gl gd go gm n long : Nat) (odd : Bool) (fs : List Fm) (R : Nat → Nat) (n10 : n ≤ 10) (hlong : long ≤ 10) (way : List Nat) (can : Bool × Bool) (A : Option Addr) (c : Nat) (w : World) (d : Nat)
    (hih : ∀ (way : List Nat) (can : Bool × Bool) (A : Option Addr) (c : Nat) (w : World), way.length + d = long → 1 ≤ way.length → (∀ x ∈ way, x < n) → CycB w ga gl gd go gm n long odd fs R → Kd.C (Kd.int .i64) w A (ints way).length (ints way) → (ints way).length ≤ c →
      Calls Tryz.prog 53 #[.slice A (ints way).length c, .agg #[.bool can.1, .bool can.2], .pointer (some ⟨ga, 0, none⟩), .pointer (some ⟨gl, 0, none⟩), .pointer (some ⟨gd, 0, none⟩), .pointer (some ⟨go, 0, none⟩)] w (FoundP w (cyc (sgF fs) n odd d way can)))
    (hl : way.length + (d + 1) = long) (h1 : 1 ≤ way.length) (hx : ∀ x ∈ way, x < n)
    (hO : CycB w ga gl gd go gm n long odd fs R) (hr : Kd.C (Kd.int .i64) w A (ints way).length (ints way)) (hc : (ints way).length ≤ c) :
    Calls Tryz.prog 53 #[.slice A (ints way).length c, .agg #[.bool can.1, .bool can.2], .pointer (some ⟨ga, 0, none⟩), .pointer (some ⟨gl, 0, none⟩), .pointer (some ⟨gd, 0, none⟩), .pointer (some ⟨go, 0, none⟩)] w (FoundP w (cyc (sgF fs) n odd (d + 1) way can)) := by
  have hlen : (ints way).length = way.length := ints_length way
  obtain ⟨ad, rfl⟩ := C_some hr (by omega)
  obtain ⟨_, e0, cl⟩ := Kd.at_int hr ((way.length : Int) - 1) (by omega) (by omega)
  cases e0
  rw [last_int way h1, show ((way.length : Int) - 1).toNat = way.length - 1 by omega] at cl
  have hla := hx _ (last_mem h1)
  have cm : w.cell? ⟨gm, way.getLastD 0, none⟩ = some (.slice (some ⟨R (way.getLastD 0), 0, none⟩) n n) := by rw [hO.M.bm.cell]; exact mtxC_get n n R _ hla hla
  have HBR := Aside0.mk (hO.M.br _ hla)
  obtain ⟨gg, hgg⟩ : ∃ gg : Nat → Option (List Nat), gg = fun j => if way.contains j || !((jn can (sgF fs (way.getLastD 0) j)).1 || (jn can (sgF fs (way.getLastD 0) j)).2) then none else cyc (sgF fs) n odd d (way ++ [j]) (jn can (sgF fs (way.getLastD 0) j)) := ⟨_, rfl⟩
  have HSH := Aside0.mk (show (List.range n).findSome? gg = cyc (sgF fs) n odd (d + 1) way can by rw [hgg]; rfl)
  have HGG := Aside0.mk (fun j => (show gg j = if way.contains j || !((jn can (sgF fs (way.getLastD 0) j)).1 || (jn can (sgF fs (way.getLastD 0) j)).2) then none else cyc (sgF fs) n odd d (way ++ [j]) (jn can (sgF fs (way.getLastD 0) j)) from by rw [hgg]))
  obtain ⟨RR, hRR⟩ : ∃ RR, cyc (sgF fs) n odd (d + 1) way can = RR := ⟨_, rfl⟩
  rw [hRR] at HSH ⊢
  have IH := Aside0.mk hih
  have HX := Aside0.mk hx
  have hq := hl
  clear hih
  have ca : w.cell? ⟨ga, 0, none⟩ = some (.slice (some ⟨gm, 0, none⟩) n n) := hO.ba.cell 0
  have HO := Aside0.mk hO
  have HR := Aside0.mk hr
  rw [hlen] at HR hc ⊢
  have HLEN := Aside0.mk hlen
  have HW := Aside0.mk h1
  have HL := Aside0.mk hl
  clear hRR hgg hO hr hlen
  have qn : ∀ (w : World) (a : Option Addr) (n c n' c' : Nat), (binOp .neq 39 (.slice a n c) (.slice none n' c')).run Tryz.prog w = .ok (.bool (!a.isNone)) w := fun w a n c n' c' => run_neq_slice_nil_any w _ _ a n c n' c' Tryz.underlying39
  generalize way.getLastD 0 = la at *
  generalize hwq : way.length = q at *
  have HWQ := Aside0.mk hwq
  have la0 : (0 : Int) ≤ la := by omega
  have la1 : (la : Int) < (n : Int) := by omega
  have wl0 : (0 : Int) ≤ (q : Int) - 1 := by omega
  have wl1 : ((q : Int) - 1).toNat = q - 1 := by omega
  have neq : ((q : Int) == (long : Int)) = false := beq_eq_false_iff_ne.2 (by omega)
  have n0 : (0 : Int) ≤ (n : Int) := by omega
  have q10 : q ≤ 10 := by omega
  clear hl hlong hx hq hwq
  obtain ⟨c1, c2⟩ := can
  have HB0 := Aside0.mk (below_alloc (Below.refl w.heap.size w) (.cells #[.bool c1, .bool c2] 77))
  have HBC := Aside0.mk (Blk.new w 77 #[.bool c1, .bool c2])
  have cl' := pw_cell_below HB0.out cl
  have ca' := pw_cell_below HB0.out ca
  have cm' := pw_cell_below HB0.out cm
  go_enter Tryz.func53, Tryz.ntmps53
  go_wp2_with fail
  clear cl ca cm cl' ca' cm'
  go_loopw [25] (fun v wr => ∃ k : Nat, k ≤ n ∧ v = .int .i64 (k : Int) ∧ Aside0 (noneTo (List.range n) gg k) ∧ Aside0 (Below w.heap.size w wr) ∧ Aside0 (Blk wr w.heap.size 77 #[.bool c1, .bool c2])) (fun v _ => n - (intOf v).toNat)
  case atStart => exact ⟨0, by omega, rfl, ⟨noneTo_zero _ _⟩, HB0, HBC⟩
  case round =>
    clear HB0 HBC
    obtain ⟨k, hk, rfl, HN, HB, HBC⟩ := hrel
    have k0 : (0 : Int) ≤ (k : Int) := by omega
    by_cases hkn : k < n
    · have hkn' : (k : Int) < (n : Int) := by omega
      have hbk := HBR.out.later HB.out
      have ce : wr.cell? ⟨R la, k * 2, none⟩ = some (.bool (sgF fs la k).1) := by rw [hbk.cell]; exact rowC_even n _ k hkn
      have co : wr.cell? ⟨R la, k * 2 + 1, none⟩ = some (.bool (sgF fs la k).2) := by rw [hbk.cell]; exact rowC_odd n _ k hkn
      have cc0 : wr.cell? ⟨w.heap.size, 0, none⟩ = some (.bool c1) := HBC.out.cell 0
      have cc1 : wr.cell? ⟨w.heap.size, 1, none⟩ = some (.bool c2) := HBC.out.cell 1
      have HGk := Aside0.mk (HGG.out k)
      have HNN := Aside0.mk (fun h => noneTo_succ HN.out (by rw [List.length_range]; exact hkn) h)
      have HNS := Aside0.mk (fun r h => noneTo_some (r := r) HN.out (by rw [List.length_range]; exact hkn) h)
      simp only [List.getElem_range] at HNN HNS
      clear hbk
      obtain ⟨a1, a2, ha⟩ : ∃ a1 a2, sgF fs la k = (a1, a2) := ⟨_, _, rfl⟩
      rw [ha] at ce co HGk
      clear ha
      obtain ⟨x1, hx1⟩ : ∃ x1, (c1 && a1 || c2 && a2) = x1 := ⟨_, rfl⟩
      obtain ⟨x2, hx2⟩ : ∃ x2, (c1 && a2 || c2 && a1) = x2 := ⟨_, rfl⟩
      have hj : jn (c1, c2) (a1, a2) = (x1, x2) := by rw [← hx1, ← hx2]; rfl
      rw [hj] at HGk
      have HX1 := Aside0.mk hx1
      have HX2 := Aside0.mk hx2
      clear hx1 hx2 hj
      have hba : Below wr.heap.size wr (wr.alloc (.cells #[.bool a1, .bool a2] 77)) := below_alloc (Below.refl _ _) _
      have HBA := Aside0.mk hba
      have d0 : (wr.alloc (.cells #[.bool a1, .bool a2] 77)).cell? ⟨w.heap.size, 0, none⟩ = some (.bool c1) := (HBC.out.later hba).cell 0
      have d1 : (wr.alloc (.cells #[.bool a1, .bool a2] 77)).cell? ⟨w.heap.size, 1, none⟩ = some (.bool c2) := (HBC.out.later hba).cell 1
      have d2 : (wr.alloc (.cells #[.bool a1, .bool a2] 77)).cell? ⟨wr.heap.size, 0, none⟩ = some (.bool a1) := (Blk.new wr 77 #[.bool a1, .bool a2]).cell 0
      have d3 : (wr.alloc (.cells #[.bool a1, .bool a2] 77)).cell? ⟨wr.heap.size, 1, none⟩ = some (.bool a2) := (Blk.new wr 77 #[.bool a1, .bool a2]).cell 1
      clear cc0 cc1 hba
      go_upto_region 5 with fail
      clear ce co
      generalize wr.alloc (.cells #[.bool a1, .bool a2] 77) = W0 at *
      go_cut [12] (fun s12 wx => ∃ g : Nat, s12 = .pointer (some ⟨g, 0, none⟩) ∧ Aside0 (Blk wx g 77 #[.bool x1, .bool x2]) ∧ Aside0 (Below W0.heap.size W0 wx))
      case first =>
        cases c1 <;> cases c2 <;> cases a1 <;> cases a2
        all_goals
          have h1 := HX1.out
          have h2 := HX2.out
          simp only [Bool.and_true, Bool.and_false, Bool.or_true, Bool.or_false, Bool.true_and, Bool.false_and, Bool.true_or, Bool.false_or] at h1 h2
          subst h1
          subst h2
          go_wp2_with fail
          go_meet
          exact ⟨_, rfl, ⟨Blk.new _ _ _⟩, ⟨below_alloc (Below.refl _ _) _⟩⟩
      case rest =>
        obtain ⟨g, rfl, HBN, HBW⟩ := hcut
        have hwc := below_then HBA.out HBA.out.size HBW.out
        have HBT := Aside0.mk (below_then HB.out HB.out.size hwc)
        have HBC2 := Aside0.mk (HBC.out.later hwc)
        have HOc := Aside0.mk (HO.out.later HBT.out)
        have c7 : wc.cell? ⟨gl, 0, none⟩ = some (.int .i64 (long : Nat)) := HOc.out.bl.cell 0
        have cn0 : wc.cell? ⟨g, 0, none⟩ = some (.bool x1) := HBN.out.cell 0
        have cn1 : wc.cell? ⟨g, 1, none⟩ = some (.bool x2) := HBN.out.cell 1
        have hgk := HGk.out
        have HCC := Aside0.mk (show Calls Tryz.prog 54 #[.slice (some ad) q c, .int .i64 (k : Nat)] wc (fun e w' => e = .returned (.bool (way.contains k)) ∧ wc = w') from by
          have := has_any (some ad) c (ints way) (k : Nat) wc (by rw [HLEN.out]; exact Kd.C_below HR.out HBT.out) (by rw [HLEN.out]; exact hc) (by rw [HLEN.out]; omega)
          rw [hasI_ints, HLEN.out] at this
          exact this)
        clear hwc d0 d1 d2 d3 HX1 HX2 HB HBC HBA
        cases hz : (x1 || x2)
        · have h1 : x1 = false := by cases x1 <;> simp at hz ⊢
          have h2 : x2 = false := by cases x2 <;> simp at hz ⊢
          subst h1
          subst h2
          have HN1 := Aside0.mk (HNN.out (by rw [hgk]; simp))
          clear hgk HNN HNS HGk hz
          go_wp2_with fail
          go_roundw
          case rel => exact ⟨k + 1, by omega, by go_num, HN1, HBT, HBC2⟩
          case measure => simp [intOf]; omega
        · cases hct : way.contains k
          · have hgk2 : gg k = cyc (sgF fs) n odd d (way ++ [k]) (x1, x2) := by rw [hgk, hct]; simp only [hz]; rfl
            rw [hct] at HCC
            clear hgk hct HGk
            obtain ⟨ro, hro⟩ : ∃ ro, cyc (sgF fs) n odd d (way ++ [k]) (x1, x2) = ro := ⟨_, rfl⟩
            rw [hro] at hgk2
            have HZ := Aside0.mk hz
            have HRO := Aside0.mk hro
            have HGK := Aside0.mk hgk2
            clear hz hro hgk2
            cases x1 <;> cases x2
            · cases HZ.out
            · go_wp2_with fail
              refine HCC.out.mono ?_
              rintro e w2 ⟨rfl, rfl⟩
              go_wp2_with fail
              have hd0 : Below wc.heap.size wc wc.drew := below_drew (Below.refl _ _)
              have HO2 := Aside0.mk (HOc.out.later hd0)
              have HB2 := Aside0.mk (below_drew HBT.out)
              have HG2 := Aside0.mk (HBN.out.later hd0)
              have HC2 := Aside0.mk (HBC2.out.later hd0)
              have hb23 : Below wc.drew.heap.size wc.drew (wc.drew.alloc (.cells #[.int .i64 (k : Nat)] 3)) := below_alloc (Below.refl _ _) _
              have HO3 := Aside0.mk (HO2.out.later hb23)
              have HB3 := Aside0.mk (below_then HB2.out HB2.out.size hb23)
              have HG3 := Aside0.mk (HG2.out.later hb23)
              have HC3 := Aside0.mk (HC2.out.later hb23)
              have HR3 := Aside0.mk (Kd.C_below HR.out HB3.out)
              clear hb23 hd0
              refine wp_region_held (S := fun wx => CycB wx ga gl gd go gm n long odd fs R ∧ Below w.heap.size w wx ∧ Blk wx g 77 #[.bool false, .bool true]) (by kernel_rfl) ?_
              refine tk (i := 0) 95 (v := .func (.func 53) #[] #[.pointer (some ⟨ga, 0, none⟩), .pointer (some ⟨gl, 0, none⟩), .pointer (some ⟨gd, 0, none⟩), .pointer (some ⟨go, 0, none⟩)]) rfl rfl (by kernel_rfl) (by kernel_rfl) (by kernel_rfl) (fun _ _ _ h => h) (by kernel_rfl) (fun wx h => ex_load1 rfl wx ⟨go, 0, none⟩ _ rfl (h.1.bo.cell 0) (fun w => by kernel_rfl)) ⟨HO2.out, HB2.out, HG2.out⟩ ?_
              simp only [pt_lit, List.set_cons_succ, List.set_cons_zero]
              refine tk (i := 10) 105 (v := .agg #[.bool false, .bool true]) rfl rfl (by kernel_rfl) (by kernel_rfl) (by kernel_rfl) (fun _ _ _ h => h) (by kernel_rfl) (fun wx h => ex_loadS rfl wx g false true rfl h.2.2) ⟨HO2.out, HB2.out, HG2.out⟩ ?_
              simp only [pt_lit, List.set_cons_succ, List.set_cons_zero]
              refine tk (i := 1) 96 (v := .slice (some ad) q c) rfl rfl (by kernel_rfl) (by kernel_rfl) (by kernel_rfl) (fun _ _ _ h => h) (by kernel_rfl) (fun wx _ => by kernel_rfl) ⟨HO2.out, HB2.out, HG2.out⟩ ?_
              simp only [pt_lit, List.set_cons_succ, List.set_cons_zero]
              refine tk (i := 2) 97 (v := .slice (some ad) q c) rfl rfl (by kernel_rfl) (by kernel_rfl) (by kernel_rfl) (fun _ _ _ h => h) (by kernel_rfl) (fun wx _ => by kernel_rfl) ⟨HO2.out, HB2.out, HG2.out⟩ ?_
              simp only [pt_lit, List.set_cons_succ, List.set_cons_zero]
              refine tk (i := 3) 98 (v := .int .i64 (q : Nat)) rfl rfl (by kernel_rfl) (by kernel_rfl) (by kernel_rfl) (fun _ _ _ h => h) (by kernel_rfl) (fun wx _ => by kernel_rfl) ⟨HO2.out, HB2.out, HG2.out⟩ ?_
              simp only [pt_lit, List.set_cons_succ, List.set_cons_zero]
              refine tk (i := 4) 99 (v := .slice (some ad) q c) rfl rfl (by kernel_rfl) (by kernel_rfl) (by kernel_rfl) (fun _ _ _ h => h) (by kernel_rfl) (fun wx _ => by kernel_rfl) ⟨HO2.out, HB2.out, HG2.out⟩ ?_
              simp only [pt_lit, List.set_cons_succ, List.set_cons_zero]
              refine tk (i := 5) 100 (v := .int .i64 (q : Nat)) rfl rfl (by kernel_rfl) (by kernel_rfl) (by kernel_rfl) (fun _ _ _ h => h) (by kernel_rfl) (fun wx _ => by kernel_rfl) ⟨HO2.out, HB2.out, HG2.out⟩ ?_
              simp only [pt_lit, List.set_cons_succ, List.set_cons_zero]
              refine tk (i := 6) 101 (v := .slice (some ad) q q) rfl rfl (by kernel_rfl) (by kernel_rfl) (by kernel_rfl) (fun _ _ _ h => h) (by kernel_rfl) (fun wx _ => ex_slice3 rfl wx (some ad) q c rfl rfl rfl hc) ⟨HO2.out, HB2.out, HG2.out⟩ ?_
              simp only [pt_lit, List.set_cons_succ, List.set_cons_zero]
              refine tk (i := 7) 102 (v := .int .i64 (k : Nat)) rfl rfl (by kernel_rfl) (by kernel_rfl) (by kernel_rfl) (fun _ _ _ h => h) (by kernel_rfl) (fun wx _ => by kernel_rfl) ⟨HO2.out, HB2.out, HG2.out⟩ ?_
              simp only [pt_lit, List.set_cons_succ, List.set_cons_zero]
              refine rv (i := 8) 103 (v := .slice (some ⟨wc.heap.size, 0, none⟩) 1 1) (w' := wc.drew.alloc (.cells #[.int .i64 (k : Nat)] 3)) (by kernel_rfl) rfl rfl (by kernel_rfl) (by kernel_rfl) ⟨HO3.out, HB3.out, HG3.out⟩ ?_
              simp only [pt_lit, List.set_cons_succ, List.set_cons_zero]
              refine r_app1 (i := 9) 104 (by kernel_rfl) rfl rfl (by kernel_rfl) (s := .tmp 101) (x := .tmp 103) rfl rfl (some ad) (ints way) wc.heap.size (k : Nat) (by rw [HLEN.out]; rfl) rfl (by rw [HLEN.out]; exact HR3.out) ((Blk.new wc.drew 3 #[.int .i64 (k : Nat)]).cell 0) (by rw [HLEN.out]; omega) (fun h => by cases h) ?_
              intro v4 w4 hr4 hb4
              rw [← ints_snoc] at hr4
              obtain ⟨A4, c4, rfl, hl4, hC4⟩ := Kd.R_reads hr4
              have HO4 := Aside0.mk (HO3.out.later hb4)
              have HG4 := Aside0.mk (HG3.out.later hb4)
              have HC4 := Aside0.mk (HC3.out.later hb4)
              have HB4 := Aside0.mk (below_then HB3.out HB3.out.size hb4)
              refine ⟨⟨HO4.out, HB4.out, HG4.out⟩, ?_⟩
              simp only [pt_lit, List.set_cons_succ, List.set_cons_zero]
              refine rc (i := 11) 106 (f := 53) (args := #[.slice A4 (ints (way ++ [k])).length c4, .agg #[.bool false, .bool true], .pointer (some ⟨ga, 0, none⟩), .pointer (some ⟨gl, 0, none⟩), .pointer (some ⟨gd, 0, none⟩), .pointer (some ⟨go, 0, none⟩)]) (by kernel_rfl) rfl rfl (by kernel_rfl) (by kernel_rfl) ?_
              refine (IH.out (way ++ [k]) (false, true) A4 c4 _ (by rw [List.length_append, List.length_singleton]; have h1 := HL.out; have h2 := HWQ.out; omega) (by rw [List.length_append, List.length_singleton]; omega) (fun x hx => by rcases List.mem_append.1 hx with h | h; exact HX.out x h; rw [List.mem_singleton.1 h]; exact hkn) HO4.out hC4 hl4).mono ?_
              rw [HRO.out]
              clear hr4 hC4 hl4
              cases ro with
              | none =>
                rintro e w5 ⟨rfl, hb5⟩
                have HN1 := Aside0.mk (HNN.out HGK.out)
                have HO5 := Aside0.mk (HO4.out.later hb5)
                have HG5 := Aside0.mk (HG4.out.later hb5)
                have HC5 := Aside0.mk (HC4.out.later hb5)
                have HB5 := Aside0.mk (below_then HB4.out HB4.out.size hb5)
                refine ⟨_, rfl, ⟨HO5.out, HB5.out, HG5.out⟩, ?_⟩
                clear hb5 hb4 HNN HNS
                simp only [pt_lit, List.set_cons_succ, List.set_cons_zero]
                refine rv (i := 12) 13 (v := .slice none 0 0) (w' := w5) (by kernel_rfl) rfl rfl (by kernel_rfl) (by kernel_rfl) ⟨HO5.out, HB5.out, HG5.out⟩ ?_
                simp only [pt_lit, List.set_cons_succ, List.set_cons_zero]
                refine wpAnyH_done (by kernel_rfl) ?_ _
                go_wp2_with fail
                go_roundw
                case rel => exact ⟨k + 1, by omega, by go_num, HN1, HB5, HC5⟩
                case measure => simp [intOf]; omega
              | some res =>
                rintro e w5 ⟨A5, c5, rfl, hl5, hC5, hb5⟩
                have HF := Aside0.mk (HSH.out.symm.trans (HNS.out res HGK.out))
                have HO5 := Aside0.mk (HO4.out.later hb5)
                have HG5 := Aside0.mk (HG4.out.later hb5)
                have HB5 := Aside0.mk (below_then HB4.out HB4.out.size hb5)
                have HC5 := Aside0.mk hC5
                have HL5 := Aside0.mk hl5
                refine ⟨_, rfl, ⟨HO5.out, HB5.out, HG5.out⟩, ?_⟩
                clear hb5 hC5 hb4 hl5 HNN HNS
                simp only [pt_lit, List.set_cons_succ, List.set_cons_zero]
                refine rv (i := 12) 13 (v := .slice (some A5) (ints res).length c5) (w' := w5) (by kernel_rfl) rfl rfl (by kernel_rfl) (by kernel_rfl) ⟨HO5.out, HB5.out, HG5.out⟩ ?_
                simp only [pt_lit, List.set_cons_succ, List.set_cons_zero]
                refine wpAnyH_done (by kernel_rfl) ?_ _
                go_wp2_with fail
                go_ret
                rw [HF.out]
                exact ⟨A5, c5, rfl, HL5.out, HC5.out, HB5.out⟩
            · go_wp2_with fail
              refine HCC.out.mono ?_
              rintro e w2 ⟨rfl, rfl⟩
              go_wp2_with fail
              have hd0 : Below wc.heap.size wc wc.drew := below_drew (Below.refl _ _)
              have HO2 := Aside0.mk (HOc.out.later hd0)
              have HB2 := Aside0.mk (below_drew HBT.out)
              have HG2 := Aside0.mk (HBN.out.later hd0)
              have HC2 := Aside0.mk (HBC2.out.later hd0)
              have hb23 : Below wc.drew.heap.size wc.drew (wc.drew.alloc (.cells #[.int .i64 (k : Nat)] 3)) := below_alloc (Below.refl _ _) _
              have HO3 := Aside0.mk (HO2.out.later hb23)
              have HB3 := Aside0.mk (below_then HB2.out HB2.out.size hb23)
              have HG3 := Aside0.mk (HG2.out.later hb23)
              have HC3 := Aside0.mk (HC2.out.later hb23)
              have HR3 := Aside0.mk (Kd.C_below HR.out HB3.out)
              clear hb23 hd0
              refine wp_region_held (S := fun wx => CycB wx ga gl gd go gm n long odd fs R ∧ Below w.heap.size w wx ∧ Blk wx g 77 #[.bool true, .bool false]) (by kernel_rfl) ?_
              refine tk (i := 0) 95 (v := .func (.func 53) #[] #[.pointer (some ⟨ga, 0, none⟩), .pointer (some ⟨gl, 0, none⟩), .pointer (some ⟨gd, 0, none⟩), .pointer (some ⟨go, 0, none⟩)]) rfl rfl (by kernel_rfl) (by kernel_rfl) (by kernel_rfl) (fun _ _ _ h => h) (by kernel_rfl) (fun wx h => ex_load1 rfl wx ⟨go, 0, none⟩ _ rfl (h.1.bo.cell 0) (fun w => by kernel_rfl)) ⟨HO2.out, HB2.out, HG2.out⟩ ?_
              simp only [pt_lit, List.set_cons_succ, List.set_cons_zero]
              refine tk (i := 10) 105 (v := .agg #[.bool true, .bool false]) rfl rfl (by kernel_rfl) (by kernel_rfl) (by kernel_rfl) (fun _ _ _ h => h) (by kernel_rfl) (fun wx h => ex_loadS rfl wx g true false rfl h.2.2) ⟨HO2.out, HB2.out, HG2.out⟩ ?_
              simp only [pt_lit, List.set_cons_succ, List.set_cons_zero]
              refine tk (i := 1) 96 (v := .slice (some ad) q c) rfl rfl (by kernel_rfl) (by kernel_rfl) (by kernel_rfl) (fun _ _ _ h => h) (by kernel_rfl) (fun wx _ => by kernel_rfl) ⟨HO2.out, HB2.out, HG2.out⟩ ?_
              simp only [pt_lit, List.set_cons_succ, List.set_cons_zero]
              refine tk (i := 2) 97 (v := .slice (some ad) q c) rfl rfl (by kernel_rfl) (by kernel_rfl) (by kernel_rfl) (fun _ _ _ h => h) (by kernel_rfl) (fun wx _ => by kernel_rfl) ⟨HO2.out, HB2.out, HG2.out⟩ ?_
              simp only [pt_lit, List.set_cons_succ, List.set_cons_zero]
              refine tk (i := 3) 98 (v := .int .i64 (q : Nat)) rfl rfl (by kernel_rfl) (by kernel_rfl) (by kernel_rfl) (fun _ _ _ h => h) (by kernel_rfl) (fun wx _ => by kernel_rfl) ⟨HO2.out, HB2.out, HG2.out⟩ ?_
              simp only [pt_lit, List.set_cons_succ, List.set_cons_zero]
              refine tk (i := 4) 99 (v := .slice (some ad) q c) rfl rfl (by kernel_rfl) (by kernel_rfl) (by kernel_rfl) (fun _ _ _ h => h) (by kernel_rfl) (fun wx _ => by kernel_rfl) ⟨HO2.out, HB2.out, HG2.out⟩ ?_
              simp only [pt_lit, List.set_cons_succ, List.set_cons_zero]
              refine tk (i := 5) 100 (v := .int .i64 (q : Nat)) rfl rfl (by kernel_rfl) (by kernel_rfl) (by kernel_rfl) (fun _ _ _ h => h) (by kernel_rfl) (fun wx _ => by kernel_rfl) ⟨HO2.out, HB2.out, HG2.out⟩ ?_
              simp only [pt_lit, List.set_cons_succ, List.set_cons_zero]
              refine tk (i := 6) 101 (v := .slice (some ad) q q) rfl rfl (by kernel_rfl) (by kernel_rfl) (by kernel_rfl) (fun _ _ _ h => h) (by kernel_rfl) (fun wx _ => ex_slice3 rfl wx (some ad) q c rfl rfl rfl hc) ⟨HO2.out, HB2.out, HG2.out⟩ ?_
              simp only [pt_lit, List.set_cons_succ, List.set_cons_zero]
              refine tk (i := 7) 102 (v := .int .i64 (k : Nat)) rfl rfl (by kernel_rfl) (by kernel_rfl) (by kernel_rfl) (fun _ _ _ h => h) (by kernel_rfl) (fun wx _ => by kernel_rfl) ⟨HO2.out, HB2.out, HG2.out⟩ ?_
              simp only [pt_lit, List.set_cons_succ, List.set_cons_zero]
              refine rv (i := 8) 103 (v := .slice (some ⟨wc.heap.size, 0, none⟩) 1 1) (w' := wc.drew.alloc (.cells #[.int .i64 (k : Nat)] 3)) (by kernel_rfl) rfl rfl (by kernel_rfl) (by kernel_rfl) ⟨HO3.out, HB3.out, HG3.out⟩ ?_
              simp only [pt_lit, List.set_cons_succ, List.set_cons_zero]
              refine r_app1 (i := 9) 104 (by kernel_rfl) rfl rfl (by kernel_rfl) (s := .tmp 101) (x := .tmp 103) rfl rfl (some ad) (ints way) wc.heap.size (k : Nat) (by rw [HLEN.out]; rfl) rfl (by rw [HLEN.out]; exact HR3.out) ((Blk.new wc.drew 3 #[.int .i64 (k : Nat)]).cell 0) (by rw [HLEN.out]; omega) (fun h => by cases h) ?_
              intro v4 w4 hr4 hb4
              rw [← ints_snoc] at hr4
              obtain ⟨A4, c4, rfl, hl4, hC4⟩ := Kd.R_reads hr4
              have HO4 := Aside0.mk (HO3.out.later hb4)
              have HG4 := Aside0.mk (HG3.out.later hb4)
              have HC4 := Aside0.mk (HC3.out.later hb4)
              have HB4 := Aside0.mk (below_then HB3.out HB3.out.size hb4)
              refine ⟨⟨HO4.out, HB4.out, HG4.out⟩, ?_⟩
              simp only [pt_lit, List.set_cons_succ, List.set_cons_zero]
              refine rc (i := 11) 106 (f := 53) (args := #[.slice A4 (ints (way ++ [k])).length c4, .agg #[.bool true, .bool false], .pointer (some ⟨ga, 0, none⟩), .pointer (some ⟨gl, 0, none⟩), .pointer (some ⟨gd, 0, none⟩), .pointer (some ⟨go, 0, none⟩)]) (by kernel_rfl) rfl rfl (by kernel_rfl) (by kernel_rfl) ?_
              refine (IH.out (way ++ [k]) (true, false) A4 c4 _ (by rw [List.length_append, List.length_singleton]; have h1 := HL.out; have h2 := HWQ.out; omega) (by rw [List.length_append, List.length_singleton]; omega) (fun x hx => by rcases List.mem_append.1 hx with h | h; exact HX.out x h; rw [List.mem_singleton.1 h]; exact hkn) HO4.out hC4 hl4).mono ?_
              rw [HRO.out]
              clear hr4 hC4 hl4
              cases ro with
              | none =>
                rintro e w5 ⟨rfl, hb5⟩
                have HN1 := Aside0.mk (HNN.out HGK.out)
                have HO5 := Aside0.mk (HO4.out.later hb5)
                have HG5 := Aside0.mk (HG4.out.later hb5)
                have HC5 := Aside0.mk (HC4.out.later hb5)
                have HB5 := Aside0.mk (below_then HB4.out HB4.out.size hb5)
                refine ⟨_, rfl, ⟨HO5.out, HB5.out, HG5.out⟩, ?_⟩
                clear hb5 hb4 HNN HNS
                simp only [pt_lit, List.set_cons_succ, List.set_cons_zero]
                refine rv (i := 12) 13 (v := .slice none 0 0) (w' := w5) (by kernel_rfl) rfl rfl (by kernel_rfl) (by kernel_rfl) ⟨HO5.out, HB5.out, HG5.out⟩ ?_
                simp only [pt_lit, List.set_cons_succ, List.set_cons_zero]
                refine wpAnyH_done (by kernel_rfl) ?_ _
                go_wp2_with fail
                go_roundw
                case rel => exact ⟨k + 1, by omega, by go_num, HN1, HB5, HC5⟩
                case measure => simp [intOf]; omega
              | some res =>
                rintro e w5 ⟨A5, c5, rfl, hl5, hC5, hb5⟩
                have HF := Aside0.mk (HSH.out.symm.trans (HNS.out res HGK.out))
                have HO5 := Aside0.mk (HO4.out.later hb5)
                have HG5 := Aside0.mk (HG4.out.later hb5)
                have HB5 := Aside0.mk (below_then HB4.out HB4.out.size hb5)
                have HC5 := Aside0.mk hC5
                have HL5 := Aside0.mk hl5
                refine ⟨_, rfl, ⟨HO5.out, HB5.out, HG5.out⟩, ?_⟩
                clear hb5 hC5 hb4 hl5 HNN HNS
                simp only [pt_lit, List.set_cons_succ, List.set_cons_zero]
                refine rv (i := 12) 13 (v := .slice (some A5) (ints res).length c5) (w' := w5) (by kernel_rfl) rfl rfl (by kernel_rfl) (by kernel_rfl) ⟨HO5.out, HB5.out, HG5.out⟩ ?_
                simp only [pt_lit, List.set_cons_succ, List.set_cons_zero]
                refine wpAnyH_done (by kernel_rfl) ?_ _
                go_wp2_with fail
                go_ret
                rw [HF.out]
                exact ⟨A5, c5, rfl, HL5.out, HC5.out, HB5.out⟩
            · go_wp2_with fail
              refine HCC.out.mono ?_
              rintro e w2 ⟨rfl, rfl⟩
              go_wp2_with fail
              have hd0 : Below wc.heap.size wc wc.drew := below_drew (Below.refl _ _)
              have HO2 := Aside0.mk (HOc.out.later hd0)
              have HB2 := Aside0.mk (below_drew HBT.out)
              have HG2 := Aside0.mk (HBN.out.later hd0)
              have HC2 := Aside0.mk (HBC2.out.later hd0)
              have hb23 : Below wc.drew.heap.size wc.drew (wc.drew.alloc (.cells #[.int .i64 (k : Nat)] 3)) := below_alloc (Below.refl _ _) _
              have HO3 := Aside0.mk (HO2.out.later hb23)
              have HB3 := Aside0.mk (below_then HB2.out HB2.out.size hb23)
              have HG3 := Aside0.mk (HG2.out.later hb23)
              have HC3 := Aside0.mk (HC2.out.later hb23)
              have HR3 := Aside0.mk (Kd.C_below HR.out HB3.out)
              clear hb23 hd0
              refine wp_region_held (S := fun wx => CycB wx ga gl gd go gm n long odd fs R ∧ Below w.heap.size w wx ∧ Blk wx g 77 #[.bool true, .bool true]) (by kernel_rfl) ?_
              refine tk (i := 0) 95 (v := .func (.func 53) #[] #[.pointer (some ⟨ga, 0, none⟩), .pointer (some ⟨gl, 0, none⟩), .pointer (some ⟨gd, 0, none⟩), .pointer (some ⟨go, 0, none⟩)]) rfl rfl (by kernel_rfl) (by kernel_rfl) (by kernel_rfl) (fun _ _ _ h => h) (by kernel_rfl) (fun wx h => ex_load1 rfl wx ⟨go, 0, none⟩ _ rfl (h.1.bo.cell 0) (fun w => by kernel_rfl)) ⟨HO2.out, HB2.out, HG2.out⟩ ?_
              simp only [pt_lit, List.set_cons_succ, List.set_cons_zero]
              refine tk (i := 10) 105 (v := .agg #[.bool true, .bool true]) rfl rfl (by kernel_rfl) (by kernel_rfl) (by kernel_rfl) (fun _ _ _ h => h) (by kernel_rfl) (fun wx h => ex_loadS rfl wx g true true rfl h.2.2) ⟨HO2.out, HB2.out, HG2.out⟩ ?_
              simp only [pt_lit, List.set_cons_succ, List.set_cons_zero]
              refine tk (i := 1) 96 (v := .slice (some ad) q c) rfl rfl (by kernel_rfl) (by kernel_rfl) (by kernel_rfl) (fun _ _ _ h => h) (by kernel_rfl) (fun wx _ => by kernel_rfl) ⟨HO2.out, HB2.out, HG2.out⟩ ?_
              simp only [pt_lit, List.set_cons_succ, List.set_cons_zero]
              refine tk (i := 2) 97 (v := .slice (some ad) q c) rfl rfl (by kernel_rfl) (by kernel_rfl) (by kernel_rfl) (fun _ _ _ h => h) (by kernel_rfl) (fun wx _ => by kernel_rfl) ⟨HO2.out, HB2.out, HG2.out⟩ ?_
              simp only [pt_lit, List.set_cons_succ, List.set_cons_zero]
              refine tk (i := 3) 98 (v := .int .i64 (q : Nat)) rfl rfl (by kernel_rfl) (by kernel_rfl) (by kernel_rfl) (fun _ _ _ h => h) (by kernel_rfl) (fun wx _ => by kernel_rfl) ⟨HO2.out, HB2.out, HG2.out⟩ ?_
              simp only [pt_lit, List.set_cons_succ, List.set_cons_zero]
              refine tk (i := 4) 99 (v := .slice (some ad) q c) rfl rfl (by kernel_rfl) (by kernel_rfl) (by kernel_rfl) (fun _ _ _ h => h) (by kernel_rfl) (fun wx _ => by kernel_rfl) ⟨HO2.out, HB2.out, HG2.out⟩ ?_
              simp only [pt_lit, List.set_cons_succ, List.set_cons_zero]
              refine tk (i := 5) 100 (v := .int .i64 (q : Nat)) rfl rfl (by kernel_rfl) (by kernel_rfl) (by kernel_rfl) (fun _ _ _ h => h) (by kernel_rfl) (fun wx _ => by kernel_rfl) ⟨HO2.out, HB2.out, HG2.out⟩ ?_
              simp only [pt_lit, List.set_cons_succ, List.set_cons_zero]
              refine tk (i := 6) 101 (v := .slice (some ad) q q) rfl rfl (by kernel_rfl) (by kernel_rfl) (by kernel_rfl) (fun _ _ _ h => h) (by kernel_rfl) (fun wx _ => ex_slice3 rfl wx (some ad) q c rfl rfl rfl hc) ⟨HO2.out, HB2.out, HG2.out⟩ ?_
              simp only [pt_lit, List.set_cons_succ, List.set_cons_zero]
              refine tk (i := 7) 102 (v := .int .i64 (k : Nat)) rfl rfl (by kernel_rfl) (by kernel_rfl) (by kernel_rfl) (fun _ _ _ h => h) (by kernel_rfl) (fun wx _ => by kernel_rfl) ⟨HO2.out, HB2.out, HG2.out⟩ ?_
              simp only [pt_lit, List.set_cons_succ, List.set_cons_zero]
              refine rv (i := 8) 103 (v := .slice (some ⟨wc.heap.size, 0, none⟩) 1 1) (w' := wc.drew.alloc (.cells #[.int .i64 (k : Nat)] 3)) (by kernel_rfl) rfl rfl (by kernel_rfl) (by kernel_rfl) ⟨HO3.out, HB3.out, HG3.out⟩ ?_
              simp only [pt_lit, List.set_cons_succ, List.set_cons_zero]
              refine r_app1 (i := 9) 104 (by kernel_rfl) rfl rfl (by kernel_rfl) (s := .tmp 101) (x := .tmp 103) rfl rfl (some ad) (ints way) wc.heap.size (k : Nat) (by rw [HLEN.out]; rfl) rfl (by rw [HLEN.out]; exact HR3.out) ((Blk.new wc.drew 3 #[.int .i64 (k : Nat)]).cell 0) (by rw [HLEN.out]; omega) (fun h => by cases h) ?_
              intro v4 w4 hr4 hb4
              rw [← ints_snoc] at hr4
              obtain ⟨A4, c4, rfl, hl4, hC4⟩ := Kd.R_reads hr4
              have HO4 := Aside0.mk (HO3.out.later hb4)
              have HG4 := Aside0.mk (HG3.out.later hb4)
              have HC4 := Aside0.mk (HC3.out.later hb4)
              have HB4 := Aside0.mk (below_then HB3.out HB3.out.size hb4)
              refine ⟨⟨HO4.out, HB4.out, HG4.out⟩, ?_⟩
              simp only [pt_lit, List.set_cons_succ, List.set_cons_zero]
              refine rc (i := 11) 106 (f := 53) (args := #[.slice A4 (ints (way ++ [k])).length c4, .agg #[.bool true, .bool true], .pointer (some ⟨ga, 0, none⟩), .pointer (some ⟨gl, 0, none⟩), .pointer (some ⟨gd, 0, none⟩), .pointer (some ⟨go, 0, none⟩)]) (by kernel_rfl) rfl rfl (by kernel_rfl) (by kernel_rfl) ?_
              refine (IH.out (way ++ [k]) (true, true) A4 c4 _ (by rw [List.length_append, List.length_singleton]; have h1 := HL.out; have h2 := HWQ.out; omega) (by rw [List.length_append, List.length_singleton]; omega) (fun x hx => by rcases List.mem_append.1 hx with h | h; exact HX.out x h; rw [List.mem_singleton.1 h]; exact hkn) HO4.out hC4 hl4).mono ?_
              rw [HRO.out]
              clear hr4 hC4 hl4
              cases ro with
              | none =>
                rintro e w5 ⟨rfl, hb5⟩
                have HN1 := Aside0.mk (HNN.out HGK.out)
                have HO5 := Aside0.mk (HO4.out.later hb5)
                have HG5 := Aside0.mk (HG4.out.later hb5)
                have HC5 := Aside0.mk (HC4.out.later hb5)
                have HB5 := Aside0.mk (below_then HB4.out HB4.out.size hb5)
                refine ⟨_, rfl, ⟨HO5.out, HB5.out, HG5.out⟩, ?_⟩
                clear hb5 hb4 HNN HNS
                simp only [pt_lit, List.set_cons_succ, List.set_cons_zero]
                refine rv (i := 12) 13 (v := .slice none 0 0) (w' := w5) (by kernel_rfl) rfl rfl (by kernel_rfl) (by kernel_rfl) ⟨HO5.out, HB5.out, HG5.out⟩ ?_
                simp only [pt_lit, List.set_cons_succ, List.set_cons_zero]
                refine wpAnyH_done (by kernel_rfl) ?_ _
                go_wp2_with fail
                go_roundw
                case rel => exact ⟨k + 1, by omega, by go_num, HN1, HB5, HC5⟩
                case measure => simp [intOf]; omega
              | some res =>
                rintro e w5 ⟨A5, c5, rfl, hl5, hC5, hb5⟩
                have HF := Aside0.mk (HSH.out.symm.trans (HNS.out res HGK.out))
                have HO5 := Aside0.mk (HO4.out.later hb5)
                have HG5 := Aside0.mk (HG4.out.later hb5)
                have HB5 := Aside0.mk (below_then HB4.out HB4.out.size hb5)
                have HC5 := Aside0.mk hC5
                have HL5 := Aside0.mk hl5
                refine ⟨_, rfl, ⟨HO5.out, HB5.out, HG5.out⟩, ?_⟩
                clear hb5 hC5 hb4 hl5 HNN HNS
                simp only [pt_lit, List.set_cons_succ, List.set_cons_zero]
                refine rv (i := 12) 13 (v := .slice (some A5) (ints res).length c5) (w' := w5) (by kernel_rfl) rfl rfl (by kernel_rfl) (by kernel_rfl) ⟨HO5.out, HB5.out, HG5.out⟩ ?_
                simp only [pt_lit, List.set_cons_succ, List.set_cons_zero]
                refine wpAnyH_done (by kernel_rfl) ?_ _
                go_wp2_with fail
                go_ret
                rw [HF.out]
                exact ⟨A5, c5, rfl, HL5.out, HC5.out, HB5.out⟩
          · have HN1 := Aside0.mk (HNN.out (by rw [hgk, hct]; rfl))
            rw [hct] at HCC
            clear hgk HNN HNS HGk hct
            cases x1 <;> cases x2
            · cases hz
            all_goals
              go_wp2_with fail
              refine HCC.out.mono ?_
              rintro e w2 ⟨rfl, rfl⟩
              go_wp2_with fail
              go_roundw
              case rel => exact ⟨k + 1, by omega, by go_num, HN1, HBT, HBC2⟩
              case measure => simp [intOf]; omega
    · obtain rfl : n = k := by omega
      have HF := Aside0.mk (HSH.out.symm.trans (noneTo_all (by rw [List.length_range]; exact HN.out)))
      go_wp2_with fail
      go_ret
      rw [HF.out]
      exact ⟨rfl, HB.out⟩
end Go.Proofs.YtijaefmaceolbaaGreatDoor.Im

namespace Go.Proofs.YtijaefmaceolbaaGreatDoor.Im
open Go.RowKit Go.Proofs.YtijaefmaceolbaaGreatDoorW.PrintWords Go.Proofs.YtijaefmaceolbaaGreatDoorW.PrintLast Go.Proofs.YtijaefmaceolbaaGreatDoorW.PrintMore Go.Proofs.YtijaefmaceolbaaGreatDoor.Tr
set_option linter.unusedVariables false
set_option linter.unusedSimpArgs false
theorem cyc1_any (ga gl gd go gm n long : Nat) (odd : Bool) (fs : List Fm) (R : Nat → Nat) (n10 : n ≤ 10) (hlong : long ≤ 10) : ∀ (d : Nat) (way : List Nat) (can : Bool × Bool) (A : Option Addr) (c : Nat) (w : World), way.length + d = long → 1 ≤ way.length → (∀ x ∈ way, x < n) → CycB w ga gl gd go gm n long odd fs R → Kd.C (Kd.int .i64) w A (ints way).length (ints way) → (ints way).length ≤ c →
      Calls Tryz.prog 53 #[.slice A (ints way).length c, .agg #[.bool can.1, .bool can.2], .pointer (some ⟨ga, 0, none⟩), .pointer (some ⟨gl, 0, none⟩), .pointer (some ⟨gd, 0, none⟩), .pointer (some ⟨go, 0, none⟩)] w (FoundP w (cyc (sgF fs) n odd d way can))
  | 0, way, can, A, c, w, hl, h1, hx, hO, hr, hc => cyc1_zero ga gl gd go gm n long odd fs R n10 hlong way can A c w hl h1 hx hO hr hc
  | d + 1, way, can, A, c, w, hl, h1, hx, hO, hr, hc => cyc1_succ ga gl gd go gm n long odd fs R n10 hlong way can A c w d (cyc1_any ga gl gd go gm n long odd fs R n10 hlong d) hl h1 hx hO hr hc
def FoundE (w : World) (r : Option (List Nat) × Int) (e : Ending) (w' : World) : Prop :=
  match r.1 with
  | some l => ∃ A c, e = .returned (.tuple #[.slice (some A) (ints l).length c, .int .i64 r.2]) ∧ (ints l).length ≤ c ∧ Kd.C (Kd.int .i64) w' (some A) (ints l).length (ints l) ∧ Below w.heap.size w w'
  | none => e = .returned (.tuple #[.slice none 0 0, .int .i64 r.2]) ∧ Below w.heap.size w w'
def findO : Option (List Nat) → Option (List Nat) × Int
  | some l => (some l, 0)
  | none => (none, 10)
def cycleO (l : List (List UInt8)) (odd : Bool) : Option (List Nat) × Int := if sysE l = 0 then findO (cycO (sgF (sysF l)) l.length odd) else (none, sysE l)
set_option maxHeartbeats 3200000 in
set_option maxRecDepth 100000 in
theorem cycle_call (l : List (List UInt8)) (odd : Bool) (w : World) (A : Option Addr) (c : Nat) (hr : Kd.C Kd.string w A l.length (l.map strL)) :
    Calls Tryz.prog 25 #[.slice A l.length c, .bool odd] w (FoundE w (cycleO l odd)) := by
  have hmf : ∀ (fn : Fn) (first cap : Array Value) (w : World), (Instr.makeFunc fn first cap).run Tryz.prog w = .ok (.func fn first cap) w := fun _ _ _ _ => rfl
  have hsf := fun (a : Addr) (c : Array Value) (w : World) => run_store Tryz.prog w a (.func (.func 53) #[] c) .plain rfl
  have qn : ∀ (w : World) (a : Option Addr) (n c n' c' : Nat), (binOp .neq 39 (.slice a n c) (.slice none n' c')).run Tryz.prog w = .ok (.bool (!a.isNone)) w := fun w a n c n' c' => run_neq_slice_nil_any w _ _ a n c n' c' Tryz.underlying39
  have hb0 : Below w.heap.size w (w.alloc (.cells #[.bool odd] 4)) := below_alloc (Below.refl _ _) _
  have HB0 := Aside0.mk hb0
  have HD0 := Aside0.mk (Blk.new w 4 #[.bool odd])
  by_cases h0 : sysE l = 0
  · have S := sys_ok h0
    have HO := Aside0.mk (of_good h0 (w.alloc (.cells #[.bool odd] 4)) A c (Kd.C_below hr hb0))
    obtain ⟨RR, hRR⟩ : ∃ RR, cycO (sgF (sysF l)) l.length odd = RR := ⟨_, rfl⟩
    have hcl : cycleO l odd = findO RR := by unfold cycleO; rw [if_pos h0, hRR]
    rw [hcl]
    have HR := Aside0.mk (hRR.symm)
    have n10 := S.n10
    have HS := Aside0.mk S
    obtain ⟨n, hn⟩ : ∃ n, l.length = n := ⟨_, rfl⟩
    rw [hn] at HO HS HR n10 ⊢
    have HA := Aside0.mk (fun (w1 : World) (A : Option Addr) (c : Nat) (hC : Kd.C kF w1 A n (sysF l)) (hc : n ≤ c) => arcs_any HS.out w1 A c hC hc)
    clear hr S h0 hn hRR hcl hb0 HS
    generalize sysF l = fs at *
    go_enter Tryz.func25, Tryz.ntmps25
    go_wp2_with (first | (go_at_call 27; refine HO.out.mono ?_; rintro e w1 ⟨A1, c1, hc1, rfl, hC, hb⟩; have HC := Aside0.mk hC; have HB := Aside0.mk (below_then HB0.out HB0.out.size hb); have HD := Aside0.mk (HD0.out.later hb); have HCC := Aside0.mk hc1; clear hC hb hc1) | (go_at_call 41; refine (HA.out _ _ _ HC.out HCC.out).mono ?_; rintro e w2 ⟨gm, R, rfl, hM, hb⟩; have HM := Aside0.mk hM; have HB2 := Aside0.mk (below_then HB.out HB.out.size hb); have HD2 := Aside0.mk (HD.out.later hb); clear hM hb))
    have n0 : (0 : Int) ≤ (n : Int) := by omega
    have HBA := Aside0.mk (Blk.new w2 62 #[.slice (some ⟨gm, 0, none⟩) n n])
    have HB3 := Aside0.mk (below_alloc HB2.out (.cells #[.slice (some ⟨gm, 0, none⟩) n n] 62))
    have HD3 := Aside0.mk (HD2.out.alloc (.cells #[.slice (some ⟨gm, 0, none⟩) n n] 62))
    have HM3 := Aside0.mk (HM.out.later (below_alloc (Below.refl _ _) (.cells #[.slice (some ⟨gm, 0, none⟩) n n] 62)))
    have hsz : (w2.alloc (.cells #[.slice (some ⟨gm, 0, none⟩) n n] 62)).heap.size = w2.heap.size + 1 := by simp
    clear HB2 HD2 HM HB HD HB0 HD0 HO HA HC HCC
    generalize w2.alloc (.cells #[.slice (some ⟨gm, 0, none⟩) n n] 62) = W2 at *
    go_loopg [9] 11 (fun kq v wr => ∃ (q gl : Nat), kq + q = 11 ∧ v = .pointer (some ⟨gl, 0, none⟩) ∧ Aside0 (Blk wr gl 3 #[.int .i64 (q + 1 : Nat)]) ∧ Aside0 (Blk wr w2.heap.size 62 #[.slice (some ⟨gm, 0, none⟩) n n]) ∧ Aside0 (Blk wr w.heap.size 4 #[.bool odd]) ∧ Aside0 (ArcM n fs gm R wr) ∧ Aside0 (Below w.heap.size w wr) ∧ Aside0 (q ≤ n) ∧ Aside0 (noneTo (List.range n) (fun k => cycL (sgF fs) n odd (k + 1)) q))
    case atStart => exact ⟨0, w2.heap.size + 1, rfl, rfl, ⟨by have h1 := Blk.new W2 3 #[.int .i64 1]; rw [hsz] at h1; simpa using h1⟩, ⟨HBA.out.alloc _⟩, ⟨HD3.out.alloc _⟩, ⟨HM3.out.later (below_alloc (Below.refl _ _) _)⟩, ⟨below_alloc HB3.out _⟩, ⟨Nat.zero_le _⟩, ⟨noneTo_zero _ _⟩⟩
    case round =>
      clear HBA HB3 HD3 HM3 hsz
      obtain ⟨q, gl, hq, rfl, HG, HBa, HDx, HMx, HBx, HQN, HN⟩ := hrel
      have cl := HG.out.cell 0
      simp only [List.getElem?_toArray, List.getElem?_cons_zero] at cl
      by_cases hqn : q < n
      · have hqn' : (q : Int) + 1 ≤ n := by omega
        have HNN := Aside0.mk (fun h => noneTo_succ HN.out (by rw [List.length_range]; exact hqn) h)
        have HNS := Aside0.mk (fun r h => noneTo_some (r := r) HN.out (by rw [List.length_range]; exact hqn) h)
        simp only [List.getElem_range] at HNN HNS
        obtain ⟨k1, rfl⟩ : ∃ k1, gk = k1 + 1 := ⟨gk - 1, by omega⟩
        have ha1 : Below wr.heap.size wr (wr.alloc (.cells #[.func (.func 53) #[] #[.pointer (some ⟨w2.heap.size, 0, none⟩), .pointer (some ⟨gl, 0, none⟩), .pointer (some ⟨w.heap.size, 0, none⟩), .pointer (some ⟨wr.heap.size, 0, none⟩)]] 75)) := below_alloc (Below.refl _ _) _
        have HOB : Aside0 (CycB (wr.alloc (.cells #[.func (.func 53) #[] #[.pointer (some ⟨w2.heap.size, 0, none⟩), .pointer (some ⟨gl, 0, none⟩), .pointer (some ⟨w.heap.size, 0, none⟩), .pointer (some ⟨wr.heap.size, 0, none⟩)]] 75)) w2.heap.size gl w.heap.size wr.heap.size gm n (q + 1) odd fs R) :=
          ⟨⟨HBa.out.alloc _, HMx.out.later ha1, HG.out.alloc _, HDx.out.alloc _, Blk.new _ _ _⟩⟩
        have HB3 := Aside0.mk (below_then HBx.out HBx.out.size ha1)
        clear ha1 HG HBa HDx HMx HBx
        go_wp2_with fail
        generalize wr.alloc (.cells #[.func (.func 53) #[] #[.pointer (some ⟨w2.heap.size, 0, none⟩), .pointer (some ⟨gl, 0, none⟩), .pointer (some ⟨w.heap.size, 0, none⟩), .pointer (some ⟨wr.heap.size, 0, none⟩)]] 75) = W0 at *
        generalize wr.heap.size = gB at *
        generalize w2.heap.size = gA at *
        go_loopw [32] (fun v wx => ∃ i : Nat, i ≤ n ∧ v = .int .i64 (i : Int) ∧ Aside0 (noneTo (List.range n) (fun i => cyc (sgF fs) n odd q [i] (true, false)) i) ∧ Aside0 (Below W0.heap.size W0 wx)) (fun v _ => n - (intOf v).toNat)
        case atStart => exact ⟨0, Nat.zero_le _, rfl, ⟨noneTo_zero _ _⟩, ⟨Below.refl _ _⟩⟩
        case round =>
          obtain ⟨i, hi, rfl, HNi, HBx⟩ := hrel
          by_cases him : i < n
          · have HN1 := Aside0.mk (fun h => noneTo_succ HNi.out (by rw [List.length_range]; exact him) h)
            have HN2 := Aside0.mk (fun r h => noneTo_some (r := r) HNi.out (by rw [List.length_range]; exact him) h)
            simp only [List.getElem_range] at HN1 HN2
            have hOx := HOB.out.later HBx.out
            have co : wr.cell? ⟨gB, 0, none⟩ = some (.func (.func 53) #[] #[.pointer (some ⟨gA, 0, none⟩), .pointer (some ⟨gl, 0, none⟩), .pointer (some ⟨w.heap.size, 0, none⟩), .pointer (some ⟨gB, 0, none⟩)]) := hOx.bo.cell 0
            have hbx2 : Below wr.heap.size wr (wr.alloc (.cells #[.int .i64 (i : Nat)] 3)) := below_alloc (Below.refl _ _) _
            have hC : Kd.C (Kd.int .i64) (wr.alloc (.cells #[.int .i64 (i : Nat)] 3)) (some ⟨wr.heap.size, 0, none⟩) (ints [i]).length (ints [i]) := C_one wr i
            have HCall := Aside0.mk (cyc1_any gA gl w.heap.size gB gm n (q + 1) odd fs R n10 (by omega) q [i] (true, false) (some ⟨wr.heap.size, 0, none⟩) 1 _ (by simp; omega) (by simp) (fun x hx => by rw [List.mem_singleton.1 hx]; omega) (hOx.later hbx2) hC (by simp [ints]))
            have HBy := Aside0.mk (below_then HBx.out HBx.out.size hbx2)
            obtain ⟨ro, hro⟩ : ∃ ro, cyc (sgF fs) n odd q [i] (true, false) = ro := ⟨_, rfl⟩
            rw [hro] at HCall HN1 HN2
            clear hbx2 hC hOx hro
            go_wp2_with fail
            refine HCall.out.mono ?_
            cases ro with
            | none =>
              rintro e w5 ⟨rfl, hb5⟩
              have HB5 := Aside0.mk (below_then HBy.out HBy.out.size hb5)
              have HN3 := Aside0.mk (HN1.out rfl)
              clear hb5
              go_wp2_with fail
              go_roundw
              case rel => exact ⟨i + 1, by omega, by go_num, HN3, HB5⟩
              case measure => simp [intOf]; omega
            | some res =>
              rintro e w5 ⟨A5, c5, rfl, hl5, hC5, hb5⟩
              have HB5 := Aside0.mk (below_then HBy.out HBy.out.size hb5)
              have HF := Aside0.mk (HR.out.trans (HNS.out res (HN2.out res rfl)))
              have HC5 := Aside0.mk hC5
              have HL5 := Aside0.mk hl5
              clear hb5 hC5 hl5
              go_wp2_with fail
              go_ret2
              rw [HF.out]
              exact ⟨A5, c5, rfl, HL5.out, HC5.out, below_then HB3.out HB3.out.size HB5.out⟩
          · obtain rfl : i = n := by omega
            have hN0 : cycL (sgF fs) i odd (q + 1) = none := by
              have := HNi.out
              have h2 := noneTo_all (l := List.range i) (g := fun j => cyc (sgF fs) i odd q [j] (true, false)) (by rw [List.length_range]; exact this)
              exact h2
            have HNq := Aside0.mk (HNN.out hN0)
            have HOx := Aside0.mk (HOB.out.later HBx.out)
            have cg : wr.cell? ⟨gl, 0, none⟩ = some (.int .i64 (q + 1 : Nat)) := HOx.out.bl.cell 0
            have HB6 := Aside0.mk (below_then HB3.out HB3.out.size HBx.out)
            clear hN0
            go_wp2_with fail
            go_roundg k1
            case measure => omega
            case rel => exact ⟨q + 1, wr.heap.size, by omega, rfl, ⟨by have := Blk.new wr 3 #[.int .i64 (q + 1 + 1 : Nat)]; have e : ((q + 1 + 1 : Nat) : Int) = (q : Int) + 1 + 1 := (by omega); rw [e] at this; exact this⟩, ⟨HOx.out.ba.alloc _⟩, ⟨HOx.out.bd.alloc _⟩, ⟨HOx.out.M.later (below_alloc (Below.refl _ _) _)⟩, ⟨below_alloc HB6.out _⟩, ⟨by omega⟩, HNq⟩
      · have hqn' : ¬ ((q : Int) + 1 ≤ n) := by omega
        have HF := Aside0.mk (show RR = none by
          have h1 := HN.out
          have h2 : q = (List.range n).length := by rw [List.length_range]; have := HQN.out; omega
          rw [h2] at h1
          exact HR.out.trans (noneTo_all h1))
        go_wp2_with fail
        go_ret2
        rw [HF.out]
        exact ⟨rfl, HBx.out⟩
  · have HR := Aside0.mk (show cycleO l odd = (none, sysE l) by unfold cycleO; rw [if_neg h0])
    have HO := Aside0.mk (of_bad h0 (w.alloc (.cells #[.bool odd] 4)) A c (Kd.C_below hr hb0))
    have hne : (sysE l != 0) = true := bne_iff_ne.2 h0
    clear h0 hr hb0
    generalize sysE l = x at *
    go_enter Tryz.func25, Tryz.ntmps25
    go_wp2_with (first | (go_at_call 27; refine HO.out.mono ?_; rintro e w1 ⟨rfl, hb⟩; have HB := Aside0.mk (below_then HB0.out HB0.out.size hb); clear hb))
    go_ret2
    rw [HR.out]
    exact ⟨rfl, HB.out⟩
end Go.Proofs.YtijaefmaceolbaaGreatDoor.Im

namespace Go.Proofs.YtijaefmaceolbaaGreatDoor.Im
open Go.RowKit Go.Proofs.YtijaefmaceolbaaGreatDoorW.PrintWords Go.Proofs.YtijaefmaceolbaaGreatDoorW.PrintLast Go.Proofs.YtijaefmaceolbaaGreatDoorW.PrintMore Go.Proofs.YtijaefmaceolbaaGreatDoor.Tr
set_option linter.unusedVariables false
set_option linter.unusedSimpArgs false
theorem C_s1 (w : World) (a : List UInt8) : Kd.C Kd.string (w.alloc (.cells #[.string (strL a)] 9)) (some ⟨w.heap.size, 0, none⟩) [a].length ([a].map strL) := by
  have h1 : (w.alloc (.cells #[.string (strL a)] 9)).ownsRow w.heap.size 9 1 (.slice (some ⟨w.heap.size, 0, none⟩) 1 1) [strL a].length (encs Value.string [strL a]) :=
    ⟨rfl, .inr ⟨w.heap.size, 1, #[.string (strL a)], rfl, Nat.le_refl _, Blk.new w 9 _, by simp, by decide, rfl, rfl⟩⟩
  have h2 : Kd.R Kd.string 9 (w.alloc (.cells #[.string (strL a)] 9)) w.heap.size (fun _ => True) (.slice (some ⟨w.heap.size, 0, none⟩) 1 1) [strL a] := Kd.R_of_own h1 (fun _ _ => trivial)
  obtain ⟨A, c, e, _, hC⟩ := Kd.R_reads h2
  injection e with e1
  rw [← e1] at hC
  exact hC
theorem C_s2 (w : World) (a b : List UInt8) : Kd.C Kd.string (w.alloc (.cells #[.string (strL a), .string (strL b)] 9)) (some ⟨w.heap.size, 0, none⟩) [a, b].length ([a, b].map strL) := by
  have h1 : (w.alloc (.cells #[.string (strL a), .string (strL b)] 9)).ownsRow w.heap.size 9 1 (.slice (some ⟨w.heap.size, 0, none⟩) 2 2) [strL a, strL b].length (encs Value.string [strL a, strL b]) :=
    ⟨rfl, .inr ⟨w.heap.size, 2, #[.string (strL a), .string (strL b)], rfl, Nat.le_refl _, Blk.new w 9 _, by simp, by decide, rfl, rfl⟩⟩
  have h2 : Kd.R Kd.string 9 (w.alloc (.cells #[.string (strL a), .string (strL b)] 9)) w.heap.size (fun _ => True) (.slice (some ⟨w.heap.size, 0, none⟩) 2 2) [strL a, strL b] := Kd.R_of_own h1 (fun _ _ => trivial)
  obtain ⟨A, c, e, _, hC⟩ := Kd.R_reads h2
  injection e with e1
  rw [← e1] at hC
  exact hC
theorem C_i2 (w : World) (i j : Nat) : Kd.C (Kd.int .i64) (w.alloc (.cells #[.int .i64 (i : Nat), .int .i64 (j : Nat)] 3)) (some ⟨w.heap.size, 0, none⟩) (ints [i, j]).length (ints [i, j]) := by
  have h1 : (w.alloc (.cells #[.int .i64 (i : Nat), .int .i64 (j : Nat)] 3)).ownsRow w.heap.size 3 1 (.slice (some ⟨w.heap.size, 0, none⟩) 2 2) (ints [i, j]).length (encs (Value.int .i64) (ints [i, j])) :=
    ⟨rfl, .inr ⟨w.heap.size, 2, #[.int .i64 (i : Nat), .int .i64 (j : Nat)], rfl, Nat.le_refl _, Blk.new w 3 _, by simp [ints], by decide, rfl, rfl⟩⟩
  have h2 : Kd.R (Kd.int .i64) 3 (w.alloc (.cells #[.int .i64 (i : Nat), .int .i64 (j : Nat)] 3)) w.heap.size (fun _ => True) (.slice (some ⟨w.heap.size, 0, none⟩) 2 2) (ints [i, j]) := Kd.R_of_own h1 (fun _ _ => trivial)
  obtain ⟨A, c, e, _, hC⟩ := Kd.R_reads h2
  injection e with e1
  rw [← e1] at hC
  exact hC
theorem liar_E : sysE [[33, 97]] = 0 := by decide
theorem liar_F : sysF [[33, 97]] = [.neg (.lt 0)] := by decide
theorem pair_E : sysE [[33, 98], [33, 97]] = 0 := by decide
theorem pair_F : sysF [[33, 98], [33, 97]] = [.neg (.lt 1), .neg (.lt 0)] := by decide
theorem la_E : sysE [[33, 97], [49]] = 0 := by decide
theorem la_F : sysF [[33, 97], [49]] = [.neg (.lt 0), .con true] := by decide
theorem k_least : leastO [[33, 97], [49]] = (⟨#[63, 49]⟩, 0) := by
  unfold leastO
  rw [la_E, la_F]
  rfl
theorem k_first : firstO [[33, 98], [33, 97]] = (⟨#[48, 49]⟩, 0) := by
  unfold firstO
  rw [pair_E, pair_F]
  have : (valsB base2 ([[33, 98], [33, 97]] : List (List UInt8)).length).find? (fixB [.neg (.lt 1), .neg (.lt 0)]) = some [some false, some true] := by decide
  rw [this]
  rfl
theorem k_core : coreO [[33, 97]] = ([0], 0) := by
  have hb : Bad [.neg (.lt 0)] 1 1 := by
    refine ⟨by decide, by decide, ?_, ?_⟩
    · intro i hi hs j hj
      obtain rfl : i = 0 := by omega
      have : (0 == j) = true := hj
      rw [beq_iff_eq] at this
      subst this
      rfl
    · rintro ⟨v, _, h⟩
      have := h 0 (by decide) rfl
      have h2 : some (!(v 0)) = some (v 0) := this
      cases hv : v 0 <;> rw [hv] at h2 <;> cases h2
  have hm : ∀ s, MinBad [.neg (.lt 0)] 1 s → s = 1 := fun s h => by
    have h1 := h.1.1
    have h2 := h.1.2.1
    omega
  have hc : IsCore 1 [.neg (.lt 0)] [0] := by
    refine ⟨1, ⟨hb, fun b hbb _ => ?_⟩, by decide, fun s' hs' => ?_⟩
    · have h1 := hbb.1
      have h2 := hbb.2.1
      omega
    · rw [hm s' hs']
      decide
  unfold coreO
  rw [if_pos liar_E, liar_F]
  show (match coreV 1 [.neg (.lt 0)] with | some c => ((c, 0) : List Nat × Int) | none => ([], 10)) = _
  rw [coreV_some hc]
theorem k_revise : reviseO [[33, 97]] ⟨#[48]⟩ = (0, 2, 0) := by
  have hr : IsRep [.neg (.lt 0)] [some false] 0 2 := by
    refine ⟨by decide, by decide, fun a b hab hb => ?_⟩
    obtain rfl : a = 0 := by omega
    obtain rfl : b = 1 := by omega
    decide
  have S : Tr.Sys 1 (sysF [[33, 97]]) := sys_ok liar_E
  rw [liar_F] at S
  have hu := (rep_spec S (v := [some false]) rfl (by intro x hx; simp at hx; subst hx; decide)).unique hr
  unfold reviseO
  rw [if_pos liar_E, liar_F, if_pos (by decide)]
  have e : vsOf ⟨#[48]⟩ = [some false] := by decide
  rw [e, hu.1, hu.2]
  rfl
theorem k_cycle : cycleO [[33, 98], [33, 97]] false = (some [0, 1], 0) := by
  unfold cycleO
  rw [if_pos pair_E, pair_F]
  have : cycO (sgF [.neg (.lt 1), .neg (.lt 0)]) ([[33, 98], [33, 97]] : List (List UInt8)).length false = some [0, 1] := by decide
  rw [this]
  rfl
end Go.Proofs.YtijaefmaceolbaaGreatDoor.Im

namespace Go.Proofs.YtijaefmaceolbaaGreatDoor.Im
open Go.RowKit Go.Proofs.YtijaefmaceolbaaGreatDoorW.PrintWords Go.Proofs.YtijaefmaceolbaaGreatDoorW.PrintLast Go.Proofs.YtijaefmaceolbaaGreatDoorW.PrintMore Go.Proofs.YtijaefmaceolbaaGreatDoor.Tr
set_option linter.unusedVariables false
set_option linter.unusedSimpArgs false
theorem same_l0 (xs : List Int) (hx : xs.length < 1000000) : ∀ (d i : Nat), i + d = xs.length → Gives (fun k => pomadelaw01_same.l0 k xs xs i) true
  | 0, i, h => Gives.now fun k => by
    simp only [pomadelaw01_same.l0]
    rw [if_neg (by omega)]
  | d + 1, i, h => (same_l0 xs hx d (i + 1) (by omega)).step fun k hk => by
    simp only [pomadelaw01_same.l0]
    rw [if_pos (by omega), if_pos (by omega), if_pos (by omega), if_pos trivial, wr_succ i (by omega), hk]
theorem same_g (xs : List Int) (hx : xs.length < 1000000) : Gives (fun k => pomadelaw01_same.f k xs xs) true :=
  (same_l0 xs hx xs.length 0 (by omega)).map fun k hk => by
    simp only [pomadelaw01_same.f]
    rw [if_pos trivial]; exact hk
theorem same_any (xs : List Int) (A B : Option Addr) (c d : Nat) (w : World) (hx : xs.length < 1000000) (hA : Kd.C (Kd.int .i64) w A xs.length xs) (hc : xs.length ≤ c) (hB : Kd.C (Kd.int .i64) w B xs.length xs) (hd : xs.length ≤ d) :
    Calls Tryz.prog 26 #[.slice A xs.length c, .slice B xs.length d] w fun e w' => e = .returned (.bool true) ∧ Below w.heap.size w w' := by
  obtain ⟨k0, hk0⟩ := same_g xs hx
  exact (pomadelaw01_same.calls k0 A c xs B d xs true w hA hc hB hd (hk0 k0 (Nat.le_refl _))).mono fun e w' ⟨h1, h2⟩ => ⟨h1, h2.below⟩
theorem texts_l0 (xs : List ByteArray) (hx : xs.length < 1000000) : ∀ (d i : Nat), i + d = xs.length → Gives (fun k => pomadelaw01_texts.l0 k xs xs i) true
  | 0, i, h => Gives.now fun k => by
    simp only [pomadelaw01_texts.l0]
    rw [if_neg (by omega)]
  | d + 1, i, h => (texts_l0 xs hx d (i + 1) (by omega)).step fun k hk => by
    simp only [pomadelaw01_texts.l0]
    rw [if_pos (by omega), if_pos (by omega), if_pos (by omega), if_pos trivial, wr_succ i (by omega), hk]
theorem texts_g (xs : List ByteArray) (hx : xs.length < 1000000) : Gives (fun k => pomadelaw01_texts.f k xs xs) true :=
  (texts_l0 xs hx xs.length 0 (by omega)).map fun k hk => by
    simp only [pomadelaw01_texts.f]
    rw [if_pos trivial]; exact hk
theorem texts_any (xs : List ByteArray) (A B : Option Addr) (c d : Nat) (w : World) (hx : xs.length < 1000000) (hA : Kd.C Kd.string w A xs.length xs) (hc : xs.length ≤ c) (hB : Kd.C Kd.string w B xs.length xs) (hd : xs.length ≤ d) :
    Calls Tryz.prog 19 #[.slice A xs.length c, .slice B xs.length d] w fun e w' => e = .returned (.bool true) ∧ Below w.heap.size w w' := by
  obtain ⟨k0, hk0⟩ := texts_g xs hx
  exact (pomadelaw01_texts.calls k0 A c xs B d xs true w hA hc hB hd (hk0 k0 (Nat.le_refl _))).mono fun e w' ⟨h1, h2⟩ => ⟨h1, h2.below⟩
def fewB (l : List ByteArray) : Bool := decide (l.length ≤ 20) && l.all fun s => decide (s.size ≤ 100)
theorem few_l0 (l : List ByteArray) : ∀ (d i : Nat), i + d = l.length → i ≤ 20 → Gives (fun k => pomadelaw01_few.l0 k l i) (decide (l.length ≤ 20) && (l.drop i).all fun s => decide (s.size ≤ 100))
  | 0, i, h, hi => Gives.now fun k => by
    simp only [pomadelaw01_few.l0]
    rw [if_neg (by omega), decide_eq_true (by omega), List.drop_of_length_le (by omega)]
    rfl
  | d + 1, i, h, hi => by
    by_cases h20 : i = 20
    · exact Gives.now fun k => by
        simp only [pomadelaw01_few.l0]
        rw [if_pos (by omega), if_pos (by omega), decide_eq_false (by omega)]
        rfl
    · have hr : rdOf ByteArray.empty l (i : Int) = l[i]'(by omega) := by
        have : i < l.length := by omega
        simp [rdOf, this]
      have hd : (l.drop i).all (fun s => decide (s.size ≤ 100)) = (decide ((l[i]'(by omega)).size ≤ 100) && (l.drop (i + 1)).all fun s => decide (s.size ≤ 100)) := by
        rw [List.drop_eq_getElem_cons (by omega : i < l.length), List.all_cons]
      by_cases hs : (l[i]'(by omega)).size ≤ 100
      · rw [hd, decide_eq_true hs, Bool.true_and]
        exact (few_l0 l d (i + 1) (by omega) (by omega)).step fun k hk => by
          simp only [pomadelaw01_few.l0]
          rw [if_pos (by omega), if_neg (by omega), if_pos (by omega), hr, if_neg (by omega), wr_succ i (by omega), hk]
      · rw [hd, decide_eq_false hs]
        exact Gives.now fun k => by
          simp only [pomadelaw01_few.l0]
          rw [if_pos (by omega), if_neg (by omega), if_pos (by omega), hr, if_pos (by omega)]
          simp
theorem few_any (l : List ByteArray) (A : Option Addr) (c : Nat) (w : World) (hA : Kd.C Kd.string w A l.length l) (hc : l.length ≤ c) :
    Calls Tryz.prog 6 #[.slice A l.length c] w fun e w' => e = .returned (.bool (fewB l)) ∧ Below w.heap.size w w' := by
  obtain ⟨k0, hk0⟩ := few_l0 l l.length 0 (by omega) (by omega)
  exact (pomadelaw01_few.calls k0 A c l (fewB l) w hA hc (by unfold pomadelaw01_few.f; exact hk0 k0 (Nat.le_refl _))).mono fun e w' ⟨h1, h2⟩ => ⟨h1, h2.below⟩
set_option maxHeartbeats 3200000 in
set_option maxRecDepth 100000 in
theorem alive_any (w : World) : Calls Tryz.prog 7 #[] w fun e w' => e = .returned (.bool true) ∧ Below w.heap.size w w' := by
  have h1 := fun w => least_call [[33, 97], [49]] (w.alloc (.cells #[.string (strL [33, 97]), .string (strL [49])] 9)) (some ⟨w.heap.size, 0, none⟩) 2 (C_s2 w _ _)
  have h2 := fun w => first_call [[33, 98], [33, 97]] (w.alloc (.cells #[.string (strL [33, 98]), .string (strL [33, 97])] 9)) (some ⟨w.heap.size, 0, none⟩) 2 (C_s2 w _ _)
  have h3 := fun w => core_call [[33, 97]] (w.alloc (.cells #[.string (strL [33, 97])] 9)) (some ⟨w.heap.size, 0, none⟩) 1 (C_s1 w _)
  have h4 := fun w => revise_call [[33, 97]] ⟨#[48]⟩ (w.alloc (.cells #[.string (strL [33, 97])] 9)) (some ⟨w.heap.size, 0, none⟩) 1 (C_s1 w _) (by decide)
  have h5 := fun w => cycle_call [[33, 98], [33, 97]] false (w.alloc (.cells #[.string (strL [33, 98]), .string (strL [33, 97])] 9)) (some ⟨w.heap.size, 0, none⟩) 2 (C_s2 w _ _)
  rw [k_least] at h1
  rw [k_first] at h2
  rw [k_core] at h3
  rw [k_revise] at h4
  rw [k_cycle] at h5
  have H1 := Aside0.mk h1
  have H2 := Aside0.mk h2
  have H3 := Aside0.mk h3
  have H4 := Aside0.mk h4
  have H5 := Aside0.mk h5
  clear h1 h2 h3 h4 h5
  go_enter Tryz.func7, Tryz.ntmps7
  go_wp2_with fail
  refine (H1.out w).mono ?_
  rintro e w1 ⟨rfl, hb1⟩
  have HB1 := Aside0.mk (below_then (below_alloc (Below.refl w.heap.size w) _) (below_alloc (Below.refl w.heap.size w) _).size hb1)
  clear hb1
  go_wp2_with fail
  refine (H2.out w1).mono ?_
  rintro e w2 ⟨rfl, hb2⟩
  have HB2 := Aside0.mk (below_then (below_alloc HB1.out _) (below_alloc HB1.out _).size hb2)
  clear hb2 HB1
  go_wp2_with fail
  refine (H3.out w2).mono ?_
  rintro e w3 ⟨A3, c3, rfl, hc3, hC3, hb3⟩
  have HB3 := Aside0.mk (below_then (below_alloc HB2.out _) (below_alloc HB2.out _).size hb3)
  have HC3 := Aside0.mk hC3
  clear hb3 HB2 hC3
  go_wp2_with fail
  refine (H4.out w3).mono ?_
  rintro e w4 ⟨rfl, hb4⟩
  have hb34 := below_then (below_alloc (Below.refl w3.heap.size w3) _) (below_alloc (Below.refl w3.heap.size w3) _).size hb4
  have HB4 := Aside0.mk (below_then HB3.out HB3.out.size hb34)
  have HC4 := Aside0.mk (Kd.C_below HC3.out hb34)
  clear hb4 HB3 HC3 hb34
  go_wp2_with fail
  refine (H5.out w4).mono ?_
  rintro e w5 ⟨A5, c5, rfl, hc5, hC5, hb5⟩
  have hb45 := below_then (below_alloc (Below.refl w4.heap.size w4) _) (below_alloc (Below.refl w4.heap.size w4) _).size hb5
  have HB5 := Aside0.mk (below_then HB4.out HB4.out.size hb45)
  have HC5 := Aside0.mk (Kd.C_below HC4.out hb45)
  have HD5 := Aside0.mk hC5
  clear hb5 HB4 HC4 hb45 hC5 H1 H2 H3 H4 H5
  go_wp2_with fail
  have hba : Below w5.heap.size w5 (w5.alloc (.cells #[.int .i64 (0 : Nat)] 3)) := below_alloc (Below.refl _ _) _
  refine (same_any (ints [0]) A3 (some ⟨w5.heap.size, 0, none⟩) c3 1 _ (by decide) (Kd.C_below HC5.out hba) hc3 (C_one w5 0) (by decide)).mono ?_
  rintro e w6 ⟨rfl, hb6⟩
  have hbw := below_then hba hba.size hb6
  have HB6 := Aside0.mk (below_then HB5.out HB5.out.size hbw)
  have HD6 := Aside0.mk (Kd.C_below HD5.out hbw)
  clear hba hb6 hbw HB5 HC5 HD5
  go_wp2_with fail
  have hbb : Below w6.heap.size w6 (w6.alloc (.cells #[.int .i64 (0 : Nat), .int .i64 (1 : Nat)] 3)) := below_alloc (Below.refl _ _) _
  refine (same_any (ints [0, 1]) (some A5) (some ⟨w6.heap.size, 0, none⟩) c5 2 _ (by decide) (Kd.C_below HD6.out hbb) hc5 (C_i2 w6 0 1) (by decide)).mono ?_
  rintro e w7 ⟨rfl, hb7⟩
  have HB7 := Aside0.mk (below_then HB6.out HB6.out.size (below_then hbb hbb.size hb7))
  clear hb7 hbb HB6 HD6
  go_wp2_with fail
  go_ret
  exact ⟨rfl, HB7.out⟩
end Go.Proofs.YtijaefmaceolbaaGreatDoor.Im

namespace Go.Proofs.YtijaefmaceolbaaGreatDoor.Im
open Go.RowKit Go.Proofs.YtijaefmaceolbaaGreatDoorW.PrintWords Go.Proofs.YtijaefmaceolbaaGreatDoorW.PrintLast Go.Proofs.YtijaefmaceolbaaGreatDoorW.PrintMore Go.Proofs.YtijaefmaceolbaaGreatDoor.Tr
set_option linter.unusedVariables false
set_option linter.unusedSimpArgs false
def opN : Tr.Op → Int
  | .and => 38
  | .or => 124
  | .eq => 61
def ndF : Fm → SNd
  | .con b => ⟨if b then 49 else 48, []⟩
  | .lt i => ⟨97 + i, []⟩
  | .neg f => ⟨33, [ndF f]⟩
  | .bin k l r => ⟨opN k, [ndF l, ndF r]⟩
def RB (g : Nat) (s : List UInt8) (many p : Nat) (bad : Bool) (w : World) : Prop := Blk w g 125 #[.string (strL s), .int .i64 (p : Nat), .int .i64 (many : Nat), .bool bad]
def RdOk (s : List UInt8) (p : Nat) (bad : Bool) (x : SNd) : Option (Fm × List UInt8) → Prop
  | some (f, t) => bad = false ∧ x = ndF f ∧ s.drop p = t
  | none => bad = true
theorem rdOk_none (s : List UInt8) (p : Nat) (x : SNd) : RdOk s p true x none := rfl
def FormP (g : Nat) (s : List UInt8) (many : Nat) (w : World) (r : Option (Fm × List UInt8)) (e : Ending) (w' : World) : Prop :=
  ∃ (x : SNd) (v : Value) (p : Nat) (bad : Bool), e = .returned (.agg #[.int .u8 x.f0, v]) ∧ kNd.M w' w.heap.size (fun _ => True) x [.int .u8 x.f0, v] ∧ RB g s many p bad w' ∧ p ≤ s.length ∧ Keep (fun i => i ≠ g) w w' ∧ RdOk s p bad x r
theorem nd_zero (w : World) (base : Nat) : kNd.M w base (fun _ => True) zNd [.int .u8 0, .slice none 0 0] := kNd_mkM w base _ zNd (Kd.R_nil _ _ _ _ _)
section
variable {w : World} {g : Nat} {s : List UInt8} {many p : Nat} {bad : Bool}
theorem RB.c0 (h : RB g s many p bad w) : w.cell? ⟨g, 0, none⟩ = some (.string (strL s)) := Blk.cell h 0
theorem RB.c1 (h : RB g s many p bad w) : w.cell? ⟨g, 1, none⟩ = some (.int .i64 (p : Nat)) := Blk.cell h 1
theorem RB.c2 (h : RB g s many p bad w) : w.cell? ⟨g, 2, none⟩ = some (.int .i64 (many : Nat)) := Blk.cell h 2
theorem RB.c3 (h : RB g s many p bad w) : w.cell? ⟨g, 3, none⟩ = some (.bool bad) := Blk.cell h 3
end
structure FS (w : World) (g : Nat) (s : List UInt8) (many p : Nat) (bad : Bool) (a v : Value) (W : World) : Prop where
  r : RB g s many p bad W
  n : Blk W w.heap.size 99 #[a, v]
  k : Keep (fun i => i ≠ g) w W
  lt : g < w.heap.size
section
variable {w W W' : World} {g : Nat} {s : List UInt8} {many p : Nat} {bad : Bool} {a v : Value}
theorem FS.start (h : RB g s many p bad w) : FS w g s many p bad (.int .u8 0) (.slice none 0 0) (w.alloc (.cells #[.int .u8 0, .slice none 0 0] 99)) :=
  ⟨Blk.later h (below_alloc (Below.refl _ _) _), Blk.new _ _ _, Keep.of_below (below_alloc (Below.refl _ _) _), Blk.lt h⟩
theorem FS.below (h : FS w g s many p bad a v W) (hb : Below W.heap.size W W') : FS w g s many p bad a v W' := ⟨Blk.later h.r hb, Blk.later h.n hb, h.k.trans (Keep.of_below hb), h.lt⟩
theorem FS.drewN (h : FS w g s many p bad a v W) (n : Nat) : FS w g s many p bad a v (W.drewN n) := h.below (pw_below_drewN (Below.refl _ _) n)
theorem FS.alloc (h : FS w g s many p bad a v W) (o : Obj) : FS w g s many p bad a v (W.alloc o) := h.below (below_alloc (Below.refl _ _) o)
theorem FS.fail (h : FS w g s many p bad a v W) : FS w g s many p true a v (W.setCell ⟨g, 3, none⟩ (.bool true)) :=
  ⟨Blk.set_ h.r 3 (.bool true), Blk.far h.n (p := ⟨g, 3, none⟩) (by have := h.lt; show w.heap.size ≠ g; omega) _, h.k.set_ g 3 _ (fun _ hp => hp rfl), h.lt⟩
theorem FS.go (h : FS w g s many p bad a v W) (p' : Nat) : FS w g s many p' bad a v (W.setCell ⟨g, 1, none⟩ (.int .i64 (p' : Nat))) :=
  ⟨Blk.set_ h.r 1 (.int .i64 (p' : Nat)), Blk.far h.n (p := ⟨g, 1, none⟩) (by have := h.lt; show w.heap.size ≠ g; omega) _, h.k.set_ g 1 _ (fun _ hp => hp rfl), h.lt⟩
theorem FS.node (h : FS w g s many p bad a v W) (a' v' : Value) : FS w g s many p bad a' v' ((W.setCell ⟨w.heap.size, 0, none⟩ a').setCell ⟨w.heap.size, 1, none⟩ v') :=
  ⟨Blk.far (Blk.far h.r (p := ⟨w.heap.size, 0, none⟩) (by have := h.lt; show g ≠ w.heap.size; omega) _) (p := ⟨w.heap.size, 1, none⟩) (by have := h.lt; show g ≠ w.heap.size; omega) _, (h.n.set_ 0 a').set_ 1 v',
    (h.k.set_ _ 0 _ (fun hp _ => by omega)).set_ _ 1 _ (fun hp _ => by omega), h.lt⟩
theorem FS.call {p' : Nat} {bad' : Bool} (h : FS w g s many p bad a v W) (hr : RB g s many p' bad' W') (hk : Keep (fun i => i ≠ g) W W') : FS w g s many p' bad' a v W' :=
  ⟨hr, hk.blk h.n (by have := h.lt; omega), h.k.trans hk, h.lt⟩
theorem FS.c0 (h : FS w g s many p bad a v W) : W.cell? ⟨g, 0, none⟩ = some (.string (strL s)) := h.r.c0
theorem FS.c1 (h : FS w g s many p bad a v W) : W.cell? ⟨g, 1, none⟩ = some (.int .i64 (p : Nat)) := h.r.c1
theorem FS.c2 (h : FS w g s many p bad a v W) : W.cell? ⟨g, 2, none⟩ = some (.int .i64 (many : Nat)) := h.r.c2
theorem FS.c3 (h : FS w g s many p bad a v W) : W.cell? ⟨g, 3, none⟩ = some (.bool bad) := h.r.c3
theorem FS.f1 (h : FS w g s many p bad a v W) : W.frozen? ⟨g, 1, none⟩ = false := Blk.frozen h.r 1
theorem FS.f3 (h : FS w g s many p bad a v W) : W.frozen? ⟨g, 3, none⟩ = false := Blk.frozen h.r 3
theorem FS.n0 (h : FS w g s many p bad a v W) : W.cell? ⟨w.heap.size, 0, none⟩ = some a := h.n.cell 0
theorem FS.n1 (h : FS w g s many p bad a v W) : W.cell? ⟨w.heap.size, 1, none⟩ = some v := h.n.cell 1
theorem FS.e0 (h : FS w g s many p bad a v W) : W.frozen? ⟨w.heap.size, 0, none⟩ = false := h.n.frozen 0
theorem FS.e1 (h : FS w g s many p bad a v W) : W.frozen? ⟨w.heap.size, 1, none⟩ = false := h.n.frozen 1
theorem FS.size (h : FS w g s many p bad a v W) : w.heap.size < W.heap.size := h.n.lt
theorem nodeSz : (Tryz.prog.info? 99).map (·.size) = some 2 := by kernel_rfl
theorem FS.ret {x : SNd} {b : Nat} {r : Option (Fm × List UInt8)} (h : FS w g s many p bad (.int .u8 x.f0) v W) (hM : kNd.M W b (fun _ => True) x [.int .u8 x.f0, v]) (hb : w.heap.size ≤ b) (hp : p ≤ s.length)
    (hr : RdOk s p bad x r) (tmps : Array Value) (ht : tmps.getD 2 undef = .pointer (some ⟨w.heap.size, 0, none⟩)) :
    bodyPost Tryz.prog Tryz.f81 (FormP g s many w r) .ret { tmps := tmps, defers := [] } W :=
  bodyPost_ret (v := .agg #[.int .u8 x.f0, v]) (results_cell_row (p := 2) (ty := 99) rfl tmps W w.heap.size 99 _ (0, 0) _ ht h.n Tryz.underlying99 rfl nodeSz) rfl
    ⟨x, v, p, bad, rfl, kNd.M_lower hb hM, h.r, hp, h.k, hr⟩
def RetG (w : World) (g : Nat) (s : List UInt8) (many : Nat) (r : Option (Fm × List UInt8)) (W : World) : Prop :=
  ∃ (p : Nat) (bad : Bool) (x : SNd) (v : Value) (b : Nat), FS w g s many p bad (.int .u8 x.f0) v W ∧ kNd.M W b (fun _ => True) x [.int .u8 x.f0, v] ∧ w.heap.size ≤ b ∧ p ≤ s.length ∧ RdOk s p bad x r
theorem retG {r : Option (Fm × List UInt8)} {tmps : Array Value} (ht : tmps.getD 2 undef = .pointer (some ⟨w.heap.size, 0, none⟩)) (h : RetG w g s many r W) :
    bodyPost Tryz.prog Tryz.f81 (FormP g s many w r) .ret { tmps := tmps, defers := [] } W := by
  obtain ⟨p, bad, x, v, b, h1, h2, h3, h4, h5⟩ := h
  exact h1.ret h2 h3 h4 h5 tmps ht
theorem FS.fin {x : SNd} {b : Nat} {r : Option (Fm × List UInt8)} (h : FS w g s many p bad (.int .u8 x.f0) v W) (hM : kNd.M W b (fun _ => True) x [.int .u8 x.f0, v]) (hb : w.heap.size ≤ b) (hp : p ≤ s.length) (hr : RdOk s p bad x r) : RetG w g s many r W :=
  ⟨p, bad, x, v, b, h, hM, hb, hp, hr⟩
theorem nd_keep {x : SNd} {cs : List Value} {b : Nat} {q : Nat → Prop} (h : kNd.M W b (fun _ => True) x cs) (hk : Keep q W W') (hq : ∀ k, b ≤ k → q k) : kNd.M W' b (fun _ => True) x cs :=
  kNd.M_mono (fun _ _ => trivial) (Kd.M_step (kNd.M_bound h) (fun k hk2 hlt => hk.block k hlt (hq k hk2.2.1)))
end
set_option maxHeartbeats 1600000 in
set_option maxRecDepth 100000 in
theorem form_bad (g : Nat) (s : List UInt8) (many p : Nat) (hp : p ≤ s.length) (w : World) (h : RB g s many p true w) :
    Calls Tryz.prog 81 #[.pointer (some ⟨g, 0, none⟩)] w (FormP g s many w none) := by
  have HS := Aside0.mk (FS.start h)
  have hne : ¬ g = w.heap.size := by have := Blk.lt h; omega
  have hne2 : ¬ w.heap.size = g := by have := Blk.lt h; omega
  clear h
  go_enter Tryz.func81, Tryz.ntmps81
  go_wp2_with fail
  generalize w.alloc (.cells #[.int .u8 0, .slice none 0 0] 99) = W0 at *
  have c3 := HS.out.c3
  have f3 := HS.out.f3
  have g0 := HS.out.n0
  have g1 := HS.out.n1
  have e0 := HS.out.e0
  have e1 := HS.out.e1
  go_quiet (fail)
  go_wp2_with (with_reducible refine retG (by with_unfolding_all rfl) ?_)
  exact ((((HS.out.drewN _).fail).node _ _).fin (x := zNd) (nd_zero _ _) (Nat.le_refl _) hp (rdOk_none s p zNd))
end Go.Proofs.YtijaefmaceolbaaGreatDoor.Im

namespace Go.Proofs.YtijaefmaceolbaaGreatDoor.Im
open Go.RowKit Go.Proofs.YtijaefmaceolbaaGreatDoorW.PrintWords Go.Proofs.YtijaefmaceolbaaGreatDoorW.PrintLast Go.Proofs.YtijaefmaceolbaaGreatDoorW.PrintMore
attribute [local go_sem] max2_int min2_int max_two min_two max_three min_three max_four min_four
set_option linter.unusedVariables false
set_option linter.unusedSimpArgs false
mutual
def pomaderef01_value.j0 : Nat → ByteArray → Int → Bool → Int → List (SNd) → Option (Int)
  | 0, _, _, _, _, _ => none
  | k + 1, x1, x11, x12, x163000, x163001 => if x12 = true then (some x163000) else (if x11 = 33 then (if 0 < (x163001.length : Int) then ((pomaderef01_value.f k ((rd_TNd x163001 0).f0) ((rd_TNd x163001 0).f1) x1).bind fun t164 => (if t164 = 63 then (some t164) else (some ((97 - t164) % 256)))) else (none)) else (if x11 = 38 then (pomaderef01_value.j1 k x1 (x11 == 38) x163000 x163001) else (if x11 = 124 then (pomaderef01_value.j1 k x1 (x11 == 124) x163000 x163001) else (pomaderef01_value.j1 k x1 (x11 == 61) x163000 x163001))))
def pomaderef01_value.j1 : Nat → ByteArray → Bool → Int → List (SNd) → Option (Int)
  | 0, _, _, _, _ => none
  | k + 1, x1, x30, x163000, x163001 => if x30 = true then (if 0 < (x163001.length : Int) then ((pomaderef01_value.f k ((rd_TNd x163001 0).f0) ((rd_TNd x163001 0).f1) x1).bind fun t166 => (if 1 < (x163001.length : Int) then ((pomaderef01_value.f k ((rd_TNd x163001 1).f0) ((rd_TNd x163001 1).f1) x1).bind fun t168 => (if x163000 = 124 then (pomaderef01_value.j2 k t166 t168 49 48 x163000 x163001) else (pomaderef01_value.j2 k t166 t168 48 49 x163000 x163001))) else (none))) else (none)) else (if 0 ≤ ((x163000 - 97) % 256) then (if ((x163000 - 97) % 256) < (x1.size : Int) then (some (bt x1 ((x163000 - 97) % 256))) else (none)) else (none))
def pomaderef01_value.j2 : Nat → Int → Int → Int → Int → Int → List (SNd) → Option (Int)
  | 0, _, _, _, _, _, _ => none
  | k + 1, x6, x7, x8, x9, x163000, x163001 => if x163000 = 61 then (if x6 = 63 then (pomaderef01_value.j3 k x6 x7 x8 x9 true x163000 x163001) else (pomaderef01_value.j3 k x6 x7 x8 x9 (x7 == 63) x163000 x163001)) else (pomaderef01_value.j3 k x6 x7 x8 x9 false x163000 x163001)
def pomaderef01_value.j3 : Nat → Int → Int → Int → Int → Bool → Int → List (SNd) → Option (Int)
  | 0, _, _, _, _, _, _, _ => none
  | k + 1, x6, x7, x8, x9, x49, x163000, x163001 => if x49 = true then (some 63) else (if x163000 = 61 then (pomaderef01_value.j4 k x6 x7 x8 x9 (x6 == x7) x163000 x163001) else (pomaderef01_value.j4 k x6 x7 x8 x9 false x163000 x163001))
def pomaderef01_value.j4 : Nat → Int → Int → Int → Int → Bool → Int → List (SNd) → Option (Int)
  | 0, _, _, _, _, _, _, _ => none
  | k + 1, x6, x7, x8, x9, x61, x163000, x163001 => if x61 = true then (some 49) else (if x163000 = 61 then (some 48) else (if x6 = x8 then (pomaderef01_value.j5 k x6 x7 x8 x9 true) else (pomaderef01_value.j5 k x6 x7 x8 x9 (x7 == x8))))
def pomaderef01_value.j5 : Nat → Int → Int → Int → Int → Bool → Option (Int)
  | 0, _, _, _, _, _ => none
  | k + 1, x6, x7, x8, x9, x74 => if x74 = true then (some x8) else (if x6 = x9 then (if x7 = x9 then (some x9) else (some 63)) else (some 63))
def pomaderef01_value.f : Nat → Int → List (SNd) → ByteArray → Option (Int)
  | 0, _, _, _ => none
  | k + 1, a0_0, l0_1, a1 => if a0_0 = 48 then (pomaderef01_value.j0 k a1 a0_0 (a0_0 == 48) a0_0 l0_1) else (pomaderef01_value.j0 k a1 a0_0 (a0_0 == 49) a0_0 l0_1)
end
theorem pomaderef01_value.mono_l : ∀ k, (∀ y0 y1 y2, LeO (pomaderef01_value.f k y0 y1 y2) (pomaderef01_value.f (k + 1) y0 y1 y2)) ∧ (∀ y0 y1 y2 y3 y4, LeO (pomaderef01_value.j0 k y0 y1 y2 y3 y4) (pomaderef01_value.j0 (k + 1) y0 y1 y2 y3 y4)) ∧ (∀ y0 y1 y2 y3, LeO (pomaderef01_value.j1 k y0 y1 y2 y3) (pomaderef01_value.j1 (k + 1) y0 y1 y2 y3)) ∧ (∀ y0 y1 y2 y3 y4 y5, LeO (pomaderef01_value.j2 k y0 y1 y2 y3 y4 y5) (pomaderef01_value.j2 (k + 1) y0 y1 y2 y3 y4 y5)) ∧ (∀ y0 y1 y2 y3 y4 y5 y6, LeO (pomaderef01_value.j3 k y0 y1 y2 y3 y4 y5 y6) (pomaderef01_value.j3 (k + 1) y0 y1 y2 y3 y4 y5 y6)) ∧ (∀ y0 y1 y2 y3 y4 y5 y6, LeO (pomaderef01_value.j4 k y0 y1 y2 y3 y4 y5 y6) (pomaderef01_value.j4 (k + 1) y0 y1 y2 y3 y4 y5 y6)) ∧ (∀ y0 y1 y2 y3 y4, LeO (pomaderef01_value.j5 k y0 y1 y2 y3 y4) (pomaderef01_value.j5 (k + 1) y0 y1 y2 y3 y4))
  | 0 => ⟨fun _ _ _ r h => by simp [pomaderef01_value.f] at h, fun _ _ _ _ _ r h => by simp [pomaderef01_value.j0] at h, fun _ _ _ _ r h => by simp [pomaderef01_value.j1] at h, fun _ _ _ _ _ _ r h => by simp [pomaderef01_value.j2] at h, fun _ _ _ _ _ _ _ r h => by simp [pomaderef01_value.j3] at h, fun _ _ _ _ _ _ _ r h => by simp [pomaderef01_value.j4] at h, fun _ _ _ _ _ r h => by simp [pomaderef01_value.j5] at h⟩
  | k + 1 => by
    obtain ⟨ih0, ih1, ih2, ih3, ih4, ih5, ih6⟩ := pomaderef01_value.mono_l k
    refine ⟨?_, ?_, ?_, ?_, ?_, ?_, ?_⟩
    · intro y0 y1 y2
      unfold pomaderef01_value.f
      repeat' first
      | (with_reducible exact ih0 _ _ _)
      | (with_reducible exact ih1 _ _ _ _ _)
      | (with_reducible exact ih2 _ _ _ _)
      | (with_reducible exact ih3 _ _ _ _ _ _)
      | (with_reducible exact ih4 _ _ _ _ _ _ _)
      | (with_reducible exact ih5 _ _ _ _ _ _ _)
      | (with_reducible exact ih6 _ _ _ _ _)
      | (with_reducible exact LeO.refl _)
      | (with_reducible exact LeO.none _)
      | (with_reducible refine LeO.ite ?_ ?_)
      | (with_reducible refine LeO.bind ?_ (fun _ => ?_))
      | exact ih0 _ _ _
      | exact ih1 _ _ _ _ _
      | exact ih2 _ _ _ _
      | exact ih3 _ _ _ _ _ _
      | exact ih4 _ _ _ _ _ _ _
      | exact ih5 _ _ _ _ _ _ _
      | exact ih6 _ _ _ _ _
      | exact LeO.none _
      | refine LeO.ite ?_ ?_
      | refine LeO.bind ?_ (fun _ => ?_)
    · intro y0 y1 y2 y3 y4
      unfold pomaderef01_value.j0
      repeat' first
      | (with_reducible exact ih0 _ _ _)
      | (with_reducible exact ih1 _ _ _ _ _)
      | (with_reducible exact ih2 _ _ _ _)
      | (with_reducible exact ih3 _ _ _ _ _ _)
      | (with_reducible exact ih4 _ _ _ _ _ _ _)
      | (with_reducible exact ih5 _ _ _ _ _ _ _)
      | (with_reducible exact ih6 _ _ _ _ _)
      | (with_reducible exact LeO.refl _)
      | (with_reducible exact LeO.none _)
      | (with_reducible refine LeO.ite ?_ ?_)
      | (with_reducible refine LeO.bind ?_ (fun _ => ?_))
      | exact ih0 _ _ _
      | exact ih1 _ _ _ _ _
      | exact ih2 _ _ _ _
      | exact ih3 _ _ _ _ _ _
      | exact ih4 _ _ _ _ _ _ _
      | exact ih5 _ _ _ _ _ _ _
      | exact ih6 _ _ _ _ _
      | exact LeO.none _
      | refine LeO.ite ?_ ?_
      | refine LeO.bind ?_ (fun _ => ?_)
    · intro y0 y1 y2 y3
      unfold pomaderef01_value.j1
      repeat' first
      | (with_reducible exact ih0 _ _ _)
      | (with_reducible exact ih1 _ _ _ _ _)
      | (with_reducible exact ih2 _ _ _ _)
      | (with_reducible exact ih3 _ _ _ _ _ _)
      | (with_reducible exact ih4 _ _ _ _ _ _ _)
      | (with_reducible exact ih5 _ _ _ _ _ _ _)
      | (with_reducible exact ih6 _ _ _ _ _)
      | (with_reducible exact LeO.refl _)
      | (with_reducible exact LeO.none _)
      | (with_reducible refine LeO.ite ?_ ?_)
      | (with_reducible refine LeO.bind ?_ (fun _ => ?_))
      | exact ih0 _ _ _
      | exact ih1 _ _ _ _ _
      | exact ih2 _ _ _ _
      | exact ih3 _ _ _ _ _ _
      | exact ih4 _ _ _ _ _ _ _
      | exact ih5 _ _ _ _ _ _ _
      | exact ih6 _ _ _ _ _
      | exact LeO.none _
      | refine LeO.ite ?_ ?_
      | refine LeO.bind ?_ (fun _ => ?_)
    · intro y0 y1 y2 y3 y4 y5
      unfold pomaderef01_value.j2
      repeat' first
      | (with_reducible exact ih0 _ _ _)
      | (with_reducible exact ih1 _ _ _ _ _)
      | (with_reducible exact ih2 _ _ _ _)
      | (with_reducible exact ih3 _ _ _ _ _ _)
      | (with_reducible exact ih4 _ _ _ _ _ _ _)
      | (with_reducible exact ih5 _ _ _ _ _ _ _)
      | (with_reducible exact ih6 _ _ _ _ _)
      | (with_reducible exact LeO.refl _)
      | (with_reducible exact LeO.none _)
      | (with_reducible refine LeO.ite ?_ ?_)
      | (with_reducible refine LeO.bind ?_ (fun _ => ?_))
      | exact ih0 _ _ _
      | exact ih1 _ _ _ _ _
      | exact ih2 _ _ _ _
      | exact ih3 _ _ _ _ _ _
      | exact ih4 _ _ _ _ _ _ _
      | exact ih5 _ _ _ _ _ _ _
      | exact ih6 _ _ _ _ _
      | exact LeO.none _
      | refine LeO.ite ?_ ?_
      | refine LeO.bind ?_ (fun _ => ?_)
    · intro y0 y1 y2 y3 y4 y5 y6
      unfold pomaderef01_value.j3
      repeat' first
      | (with_reducible exact ih0 _ _ _)
      | (with_reducible exact ih1 _ _ _ _ _)
      | (with_reducible exact ih2 _ _ _ _)
      | (with_reducible exact ih3 _ _ _ _ _ _)
      | (with_reducible exact ih4 _ _ _ _ _ _ _)
      | (with_reducible exact ih5 _ _ _ _ _ _ _)
      | (with_reducible exact ih6 _ _ _ _ _)
      | (with_reducible exact LeO.refl _)
      | (with_reducible exact LeO.none _)
      | (with_reducible refine LeO.ite ?_ ?_)
      | (with_reducible refine LeO.bind ?_ (fun _ => ?_))
      | exact ih0 _ _ _
      | exact ih1 _ _ _ _ _
      | exact ih2 _ _ _ _
      | exact ih3 _ _ _ _ _ _
      | exact ih4 _ _ _ _ _ _ _
      | exact ih5 _ _ _ _ _ _ _
      | exact ih6 _ _ _ _ _
      | exact LeO.none _
      | refine LeO.ite ?_ ?_
      | refine LeO.bind ?_ (fun _ => ?_)
    · intro y0 y1 y2 y3 y4 y5 y6
      unfold pomaderef01_value.j4
      repeat' first
      | (with_reducible exact ih0 _ _ _)
      | (with_reducible exact ih1 _ _ _ _ _)
      | (with_reducible exact ih2 _ _ _ _)
      | (with_reducible exact ih3 _ _ _ _ _ _)
      | (with_reducible exact ih4 _ _ _ _ _ _ _)
      | (with_reducible exact ih5 _ _ _ _ _ _ _)
      | (with_reducible exact ih6 _ _ _ _ _)
      | (with_reducible exact LeO.refl _)
      | (with_reducible exact LeO.none _)
      | (with_reducible refine LeO.ite ?_ ?_)
      | (with_reducible refine LeO.bind ?_ (fun _ => ?_))
      | exact ih0 _ _ _
      | exact ih1 _ _ _ _ _
      | exact ih2 _ _ _ _
      | exact ih3 _ _ _ _ _ _
      | exact ih4 _ _ _ _ _ _ _
      | exact ih5 _ _ _ _ _ _ _
      | exact ih6 _ _ _ _ _
      | exact LeO.none _
      | refine LeO.ite ?_ ?_
      | refine LeO.bind ?_ (fun _ => ?_)
    · intro y0 y1 y2 y3 y4
      unfold pomaderef01_value.j5
      repeat' first
      | (with_reducible exact ih0 _ _ _)
      | (with_reducible exact ih1 _ _ _ _ _)
      | (with_reducible exact ih2 _ _ _ _)
      | (with_reducible exact ih3 _ _ _ _ _ _)
      | (with_reducible exact ih4 _ _ _ _ _ _ _)
      | (with_reducible exact ih5 _ _ _ _ _ _ _)
      | (with_reducible exact ih6 _ _ _ _ _)
      | (with_reducible exact LeO.refl _)
      | (with_reducible exact LeO.none _)
      | (with_reducible refine LeO.ite ?_ ?_)
      | (with_reducible refine LeO.bind ?_ (fun _ => ?_))
      | exact ih0 _ _ _
      | exact ih1 _ _ _ _ _
      | exact ih2 _ _ _ _
      | exact ih3 _ _ _ _ _ _
      | exact ih4 _ _ _ _ _ _ _
      | exact ih5 _ _ _ _ _ _ _
      | exact ih6 _ _ _ _ _
      | exact LeO.none _
      | refine LeO.ite ?_ ?_
      | refine LeO.bind ?_ (fun _ => ?_)
theorem pomaderef01_value.mono : ∀ a0 a1 a2 k, LeO (pomaderef01_value.f k a0 a1 a2) (pomaderef01_value.f (k + 1) a0 a1 a2) := by
  intro a0 a1 a2 k
  obtain ⟨ih0, ih1, ih2, ih3, ih4, ih5, ih6⟩ := pomaderef01_value.mono_l k
  exact ih0 a0 a1 a2
def pomaderef01_value.T13 : Bool × List (List Nat × List Nat) := (true, [([], []), ([0], [0]), ([1], [1]), ([2], [2]), ([], []), ([3, 4], [3, 4]), ([], []), ([6], [6]), ([7], [7]), ([8], [8]), ([], []), ([9, 10, 5], [9, 10]), ([5, 11, 0, 1, 2, 3, 4, 5], [5]), ([11, 12, 0, 1, 2, 3, 4, 5, 6, 7, 8, 9, 10, 11, 12], [11])])
def pomaderef01_value.B13 : List Nat := [0, 1, 3, 7, 0, 31, 0, 64, 192, 448, 0, 2047, 4095, 8191]
theorem pomaderef01_value.tab13 : rtab .any (opsOf Tryz.f89 13) = pomaderef01_value.T13 := by kernel_rfl
theorem pomaderef01_value.bits13 : waitsOk pomaderef01_value.T13.2 pomaderef01_value.B13 = true := by kernel_rfl
set_option maxHeartbeats 8000000 in
set_option maxRecDepth 100000 in
theorem pomaderef01_value.calls (k : Nat) : ∀ (a0_0 : Int) (A0_1 : Option Addr) (c0_1 : Nat) (l0_1 : List (SNd)) (a1 : ByteArray) (r : Int) (w : World) (hr0_1 : Kd.C kNd w A0_1 l0_1.length l0_1) (hc0_1 : l0_1.length ≤ c0_1) (h : pomaderef01_value.f k a0_0 l0_1 a1 = some r),
    Calls Tryz.prog 89 #[.agg #[.int .u8 a0_0, .slice A0_1 l0_1.length c0_1], .string a1] w fun e w' => e = .returned (.int .u8 r) ∧ Below w.heap.size w w' := by
  induction k using Nat.strongRecOn with
  | _ k ih =>
  intro a0_0 A0_1 c0_1 l0_1 a1 r w hr0_1 hc0_1 h
  cases k with
  | zero => exact absurd h (by simp [pomaderef01_value.f])
  | succ k =>
  simp only [pomaderef01_value.f] at h
  have hu99 := Tryz.underlying99
  have HR0_1 := Aside0.mk hr0_1
  have HC0_1 := Aside0.mk hc0_1
  clear hr0_1 hc0_1
  have HB := Aside0.mk (Below.refl w.heap.size w)
  have H : (if a0_0 = 48 then (pomaderef01_value.j0 k a1 a0_0 (a0_0 == 48) a0_0 l0_1) else (pomaderef01_value.j0 k a1 a0_0 (a0_0 == 49) a0_0 l0_1)) = some r := h
  clear h
  have HC3 := Aside0.mk H
  clear H
  go_enter Tryz.func89, Tryz.ntmps89
  go_upto_if 12 with (first | ((with_reducible refine gate_dst (N := 2) rfl ?_); refine box_event ?hg (N := 2) ?hd (cs := #[.int .u8 a0_0, .slice A0_1 l0_1.length c0_1]) (t := 99) ?hr ?_; (case hd => rfl); (case hg => rfl); (case hr => first | (go_simp; done) | (go_simp; rfl)); intro gb162 hg w4 hbox hb; have n0_ := Aside0.mk (below_step (by repeat (first | (with_reducible first | exact HB.out | apply below_alloc | apply pw_below_drewN | apply below_drew1) | exact HB.out)) hb); have n1_ := Aside0.mk (hbox); have n2_ := Aside0.mk ((by rw [hg]; exact (below_size (by repeat (first | (with_reducible first | exact HB.out | apply below_alloc | apply pw_below_drewN | apply below_drew1) | exact HB.out))) : w.heap.size ≤ gb162)); have n3_ := Aside0.mk ((by rw [hg]; exact (below_size (by repeat (first | (with_reducible first | exact HB.out | apply below_alloc | apply pw_below_drewN | apply below_drew1) | exact HB.out))) : w.heap.size ≤ gb162)); clear HB; have HB := n0_; have BK162 := n1_; have GW162 := n2_; have GE162 := n3_; clear n0_ n1_ n2_ n3_; clear hb hbox hg; have hcz5_0 : w4.cell? ⟨gb162, 0, none⟩ = some (.int .u8 a0_0) := (blk_cell BK162.out 0).trans rfl; have hcz5_1 : w4.cell? ⟨gb162, 1, none⟩ = some (.slice A0_1 l0_1.length c0_1) := (blk_cell BK162.out 1).trans rfl; have hfz5_0 := blk_frozen BK162.out 0; have hfz5_1 := blk_frozen BK162.out 1))
  (try simp only [Act.put, List.setIfInBounds_toArray, List.set_cons_zero, List.set_cons_succ])
  go_cut [12] (fun v12 wc => ∃ (kq : Nat) (x12_2 : Bool), v12 = .bool x12_2 ∧ Aside0 (pomaderef01_value.j0 kq a1 a0_0 x12_2 a0_0 l0_1 = some r) ∧ Aside0 (kq ≤ k) ∧ Aside0 (wc.heap[gb162]? = some (.cells #[.int .u8 a0_0, (.slice A0_1 l0_1.length c0_1)] 99 (0, 0))) ∧ Aside0 (Below w.heap.size w wc))
  case first =>
    have H := HC3.out
    clear HC3
    by_cases c6 : a0_0 = 48
    · rw [if_pos c6] at H
      have c6b0 : (a0_0 == 48) = true := beq_iff_eq.mpr c6
      have c6b1 : (a0_0 != 48) = false := bne_eq_false_iff_eq.mpr c6
      clear c6
      (first | rw [c6b0] | (simp only [i64_w, i32_w]; rw [c6b0]) | skip)
      have H' := Aside0.mk H
      clear H
      go_wp2
      go_meet
      case rel => exact ⟨_, ((a0_0 == 48)), (by first | rfl | (simp; done) | (simp [*]; done)), H', ⟨by first | omega | exact Nat.le_refl _⟩, ⟨by (with_reducible repeat (first | refine blk_drewN ?_ _ | refine blk_drew ?_ | refine blk_alloc ?_ _)); exact BK162.out⟩, ⟨by repeat (first | (with_reducible first | exact HB.out | apply below_alloc | apply pw_below_drewN | apply below_drew1 | refine below_set ?_ GE162.out) | exact HB.out)⟩⟩
    · rw [if_neg c6] at H
      have c6b0 : (a0_0 == 48) = false := beq_eq_false_iff_ne.mpr c6
      have c6b1 : (a0_0 != 48) = true := bne_iff_ne.mpr c6
      (first | rw [c6b0] | (simp only [i64_w, i32_w]; rw [c6b0]) | skip)
      have H' := Aside0.mk H
      clear H
      go_wp2
      go_meet
      case rel => exact ⟨_, ((a0_0 == 49)), (by first | rfl | (simp; done) | (simp [*]; done)), H', ⟨by first | omega | exact Nat.le_refl _⟩, ⟨by (with_reducible repeat (first | refine blk_drewN ?_ _ | refine blk_drew ?_ | refine blk_alloc ?_ _)); exact BK162.out⟩, ⟨by repeat (first | (with_reducible first | exact HB.out | apply below_alloc | apply pw_below_drewN | apply below_drew1 | refine below_set ?_ GE162.out) | exact HB.out)⟩⟩
  case rest =>
    clear HC3
    try clear p2
    try clear c6
    try clear c6b0
    try clear c6b1
    try clear hcz5_0
    try clear hcz5_1
    try clear hfz5_0
    try clear hfz5_1
    obtain ⟨kq, x12_2, rfl, HA, HJ2, BK162, HB⟩ := hcut
    cases kq with
    | zero => exact absurd HA.out (by simp [pomaderef01_value.j0])
    | succ kj2 =>
      have H := HA.out
      clear HA
      simp only [pomaderef01_value.j0] at H
      by_cases c7 : x12_2 = true
      · subst c7
        have H1 : (some a0_0) = some r := by rw [if_pos rfl] at H; exact H
        clear H
        have H := H1
        clear H1
        obtain rfl := Option.some.inj H
        have hcz8_0 : wc.cell? ⟨gb162, 0, none⟩ = some (.int .u8 a0_0) := (blk_cell BK162.out 0).trans rfl
        have hcz8_1 : wc.cell? ⟨gb162, 1, none⟩ = some (.slice A0_1 l0_1.length c0_1) := (blk_cell BK162.out 1).trans rfl
        have hfz8_0 := blk_frozen BK162.out 0
        have hfz8_1 := blk_frozen BK162.out 1
        go_wp2
        go_ret
        exact ⟨by first | rfl | (simp [errW_none, errW_some] <;> rfl) | (simp [*, errW_none, errW_some] <;> rfl), by repeat (first | (with_reducible first | exact HB.out | apply below_alloc | apply pw_below_drewN | apply below_drew1 | refine below_set ?_ GE162.out) | exact HB.out)⟩
      · replace c7 := Bool.eq_false_iff.mpr c7
        subst c7
        have H1 : (if a0_0 = 33 then (if 0 < (l0_1.length : Int) then ((pomaderef01_value.f kj2 ((rd_TNd l0_1 0).f0) ((rd_TNd l0_1 0).f1) a1).bind fun t164 => (if t164 = 63 then (some t164) else (some ((97 - t164) % 256)))) else (none)) else (if a0_0 = 38 then (pomaderef01_value.j1 kj2 a1 (a0_0 == 38) a0_0 l0_1) else (if a0_0 = 124 then (pomaderef01_value.j1 kj2 a1 (a0_0 == 124) a0_0 l0_1) else (pomaderef01_value.j1 kj2 a1 (a0_0 == 61) a0_0 l0_1)))) = some r := by rw [if_neg (show ¬ (false = true) by decide)] at H; exact H
        clear H
        have H := H1
        clear H1
        by_cases c9 : a0_0 = 33
        · rw [if_pos c9] at H
          have c9b0 : (a0_0 == 33) = true := beq_iff_eq.mpr c9
          have c9b1 : (a0_0 != 33) = false := bne_eq_false_iff_eq.mpr c9
          clear c9
          by_cases c10 : 0 < (l0_1.length : Int)
          · rw [if_pos c10] at H
            have c10b0 : decide (0 < (l0_1.length : Int)) = true := decide_eq_true c10
            have c10b1 : decide (0 < l0_1.length) = true := decide_eq_true (by omega)
            clear c10
            replace H := Option.bind_eq_some_iff.mp H
            obtain ⟨t164, A110, H⟩ := H
            replace H : (if t164 = 63 then (some t164) else (some ((97 - t164) % 256))) = some r := H
            have A11 := Aside0.mk A110
            clear A110
            by_cases c12 : t164 = 63
            · rw [if_pos c12] at H
              have c12b0 : (t164 == 63) = true := beq_iff_eq.mpr c12
              have c12b1 : (t164 != 63) = false := bne_eq_false_iff_eq.mpr c12
              clear c12
              obtain rfl := Option.some.inj H
              have hcz13_0 : wc.cell? ⟨gb162, 0, none⟩ = some (.int .u8 a0_0) := (blk_cell BK162.out 0).trans rfl
              have hcz13_1 : wc.cell? ⟨gb162, 1, none⟩ = some (.slice A0_1 l0_1.length c0_1) := (blk_cell BK162.out 1).trans rfl
              have hfz13_0 := blk_frozen BK162.out 0
              have hfz13_1 := blk_frozen BK162.out 1
              have p163 : 0 ≤ (0 : Int) := (by omega)
              have q163 : 0 < (l0_1.length : Int) := of_decide_eq_true (by first | (with_reducible assumption) | assumption)
              obtain ⟨ad163, A163_1, c163_1, e163, hx163_0, hx163_1, hl163_1, hi163_1⟩ := at_TNd HR0_1.out 0 p163 q163
              cases e163
              have qi163 : (0 < l0_1.length) = True := eq_true (by omega)
              (try rw [show ((0 : Int)).toNat = 0 from rfl] at hx163_0)
              (try rw [show 0 * 2 = 0 from rfl] at hx163_0)
              (try rw [Addr.add_zero'] at hx163_0)
              (try rw [show ((0 : Int)).toNat = 0 from rfl] at hx163_1)
              (try rw [show 0 * 2 = 0 from rfl] at hx163_1)
              (try rw [Addr.add_zero'] at hx163_1)
              replace hx163_0 := (HB.out.cell (World.block_lt_of_cell? w _ hx163_0)).trans hx163_0
              replace hx163_1 := (HB.out.cell (World.block_lt_of_cell? w _ hx163_1)).trans hx163_1
              have HR163_1 := Aside0.mk hi163_1
              have HC163_1 := Aside0.mk hl163_1
              clear hi163_1 hl163_1
              replace p163 := eq_true p163
              replace q163 := eq_true q163
              go_wp2_with (first | ((with_reducible refine gate_callee (f := 89) rfl ?_); refine goesL_ (some 24) rfl rfl Tryz.func89 (by kernel_rfl) rfl #[.agg #[.int .u8 ((rd_TNd l0_1 0).f0), .slice A163_1 ((rd_TNd l0_1 0).f1).length c163_1], .string a1] rfl (by (try simp only [List.map_toArray, List.map_cons, List.map_nil]); first | done | rfl | (simp only [List.length_drop, List.length_take]; rfl)) ?_; (with_reducible refine (ih kj2 (by have := HJ2.out; omega) ((rd_TNd l0_1 0).f0) _ _ ((rd_TNd l0_1 0).f1) a1 t164 _ ?side1 ?side2 A11.out).mono ?_); (case side1 => repeat (first | exact (Kd.C_below HR163_1.out HB.out) | (with_reducible refine Kd.C_alloc ?_ _) | (with_reducible refine Kd.C_drewN ?_ _) | (with_reducible refine Kd.C_drew ?_))); (case side2 => exact HC163_1.out); rintro e w14 ⟨rfl, hb⟩; refine ⟨_, rfl, ?_⟩; have n0_ := Aside0.mk (blk_below (g := gb162) (o := .cells #[.int .u8 a0_0, .slice (some ad163) l0_1.length c0_1] 99 (0, 0)) (by (with_reducible repeat (first | refine blk_drewN ?_ _ | refine blk_drew ?_ | refine blk_alloc ?_ _)); exact BK162.out) hb); have n1_ := Aside0.mk (below_step (by repeat (first | (with_reducible first | exact HB.out | apply below_alloc | apply pw_below_drewN | apply below_drew1 | refine below_set ?_ GE162.out) | exact HB.out)) hb); clear BK162; clear HB; have BK162 := n0_; have HB := n1_; clear n0_ n1_; (try clear hb); (try clear hb2); (try clear hk); (try clear hi)))
              go_ret
              exact ⟨by first | rfl | (simp [errW_none, errW_some] <;> rfl) | (simp [*, errW_none, errW_some] <;> rfl), by repeat (first | (with_reducible first | exact HB.out | apply below_alloc | apply pw_below_drewN | apply below_drew1 | refine below_set ?_ GE162.out) | exact HB.out)⟩
            · rw [if_neg c12] at H
              have c12b0 : (t164 == 63) = false := beq_eq_false_iff_ne.mpr c12
              have c12b1 : (t164 != 63) = true := bne_iff_ne.mpr c12
              obtain rfl := Option.some.inj H
              have hcz15_0 : wc.cell? ⟨gb162, 0, none⟩ = some (.int .u8 a0_0) := (blk_cell BK162.out 0).trans rfl
              have hcz15_1 : wc.cell? ⟨gb162, 1, none⟩ = some (.slice A0_1 l0_1.length c0_1) := (blk_cell BK162.out 1).trans rfl
              have hfz15_0 := blk_frozen BK162.out 0
              have hfz15_1 := blk_frozen BK162.out 1
              have p163 : 0 ≤ (0 : Int) := (by omega)
              have q163 : 0 < (l0_1.length : Int) := of_decide_eq_true (by first | (with_reducible assumption) | assumption)
              obtain ⟨ad163, A163_1, c163_1, e163, hx163_0, hx163_1, hl163_1, hi163_1⟩ := at_TNd HR0_1.out 0 p163 q163
              cases e163
              have qi163 : (0 < l0_1.length) = True := eq_true (by omega)
              (try rw [show ((0 : Int)).toNat = 0 from rfl] at hx163_0)
              (try rw [show 0 * 2 = 0 from rfl] at hx163_0)
              (try rw [Addr.add_zero'] at hx163_0)
              (try rw [show ((0 : Int)).toNat = 0 from rfl] at hx163_1)
              (try rw [show 0 * 2 = 0 from rfl] at hx163_1)
              (try rw [Addr.add_zero'] at hx163_1)
              replace hx163_0 := (HB.out.cell (World.block_lt_of_cell? w _ hx163_0)).trans hx163_0
              replace hx163_1 := (HB.out.cell (World.block_lt_of_cell? w _ hx163_1)).trans hx163_1
              have HR163_1 := Aside0.mk hi163_1
              have HC163_1 := Aside0.mk hl163_1
              clear hi163_1 hl163_1
              replace p163 := eq_true p163
              replace q163 := eq_true q163
              go_wp2_with (first | ((with_reducible refine gate_callee (f := 89) rfl ?_); refine goesL_ (some 24) rfl rfl Tryz.func89 (by kernel_rfl) rfl #[.agg #[.int .u8 ((rd_TNd l0_1 0).f0), .slice A163_1 ((rd_TNd l0_1 0).f1).length c163_1], .string a1] rfl (by (try simp only [List.map_toArray, List.map_cons, List.map_nil]); first | done | rfl | (simp only [List.length_drop, List.length_take]; rfl)) ?_; (with_reducible refine (ih kj2 (by have := HJ2.out; omega) ((rd_TNd l0_1 0).f0) _ _ ((rd_TNd l0_1 0).f1) a1 t164 _ ?side1 ?side2 A11.out).mono ?_); (case side1 => repeat (first | exact (Kd.C_below HR163_1.out HB.out) | (with_reducible refine Kd.C_alloc ?_ _) | (with_reducible refine Kd.C_drewN ?_ _) | (with_reducible refine Kd.C_drew ?_))); (case side2 => exact HC163_1.out); rintro e w16 ⟨rfl, hb⟩; refine ⟨_, rfl, ?_⟩; have n0_ := Aside0.mk (blk_below (g := gb162) (o := .cells #[.int .u8 a0_0, .slice (some ad163) l0_1.length c0_1] 99 (0, 0)) (by (with_reducible repeat (first | refine blk_drewN ?_ _ | refine blk_drew ?_ | refine blk_alloc ?_ _)); exact BK162.out) hb); have n1_ := Aside0.mk (below_step (by repeat (first | (with_reducible first | exact HB.out | apply below_alloc | apply pw_below_drewN | apply below_drew1 | refine below_set ?_ GE162.out) | exact HB.out)) hb); clear BK162; clear HB; have BK162 := n0_; have HB := n1_; clear n0_ n1_; (try clear hb); (try clear hb2); (try clear hk); (try clear hi)))
              go_ret
              exact ⟨by first | rfl | (simp [errW_none, errW_some] <;> rfl) | (simp [*, errW_none, errW_some] <;> rfl), by repeat (first | (with_reducible first | exact HB.out | apply below_alloc | apply pw_below_drewN | apply below_drew1 | refine below_set ?_ GE162.out) | exact HB.out)⟩
          · rw [if_neg c10] at H
            exact absurd H (by simp)
        · rw [if_neg c9] at H
          have c9b0 : (a0_0 == 33) = false := beq_eq_false_iff_ne.mpr c9
          have c9b1 : (a0_0 != 33) = true := bne_iff_ne.mpr c9
          have HC17 := Aside0.mk H
          clear H
          go_upto_if 30 with (fail)
          go_cut [30] (fun v30 wc => ∃ (kq : Nat) (x30_16 : Bool), v30 = .bool x30_16 ∧ Aside0 (pomaderef01_value.j1 kq a1 x30_16 a0_0 l0_1 = some r) ∧ Aside0 (kq ≤ kj2) ∧ Aside0 (wc.heap[gb162]? = some (.cells #[.int .u8 a0_0, (.slice A0_1 l0_1.length c0_1)] 99 (0, 0))) ∧ Aside0 (Below w.heap.size w wc))
          case first =>
            have H := HC17.out
            clear HC17
            by_cases c18 : a0_0 = 38
            · rw [if_pos c18] at H
              have c18b0 : (a0_0 == 38) = true := beq_iff_eq.mpr c18
              have c18b1 : (a0_0 != 38) = false := bne_eq_false_iff_eq.mpr c18
              clear c18
              (first | rw [c18b0] | (simp only [i64_w, i32_w]; rw [c18b0]) | skip)
              have H' := Aside0.mk H
              clear H
              go_wp2
              go_meet
              case rel => exact ⟨_, ((a0_0 == 38)), (by first | rfl | (simp; done) | (simp [*]; done)), H', ⟨by have := HJ2.out; first | omega | exact Nat.le_refl _⟩, ⟨by (with_reducible repeat (first | refine blk_drewN ?_ _ | refine blk_drew ?_ | refine blk_alloc ?_ _)); exact BK162.out⟩, ⟨by repeat (first | (with_reducible first | exact HB.out | apply below_alloc | apply pw_below_drewN | apply below_drew1 | refine below_set ?_ GE162.out) | exact HB.out)⟩⟩
            · rw [if_neg c18] at H
              have c18b0 : (a0_0 == 38) = false := beq_eq_false_iff_ne.mpr c18
              have c18b1 : (a0_0 != 38) = true := bne_iff_ne.mpr c18
              (first | rw [c18b0] | (simp only [i64_w, i32_w]; rw [c18b0]) | skip)
              by_cases c19 : a0_0 = 124
              · rw [if_pos c19] at H
                have c19b0 : (a0_0 == 124) = true := beq_iff_eq.mpr c19
                have c19b1 : (a0_0 != 124) = false := bne_eq_false_iff_eq.mpr c19
                clear c19
                have H' := Aside0.mk H
                clear H
                go_wp2
                go_meet
                case rel => exact ⟨_, ((a0_0 == 124)), (by first | rfl | (simp; done) | (simp [*]; done)), H', ⟨by have := HJ2.out; first | omega | exact Nat.le_refl _⟩, ⟨by (with_reducible repeat (first | refine blk_drewN ?_ _ | refine blk_drew ?_ | refine blk_alloc ?_ _)); exact BK162.out⟩, ⟨by repeat (first | (with_reducible first | exact HB.out | apply below_alloc | apply pw_below_drewN | apply below_drew1 | refine below_set ?_ GE162.out) | exact HB.out)⟩⟩
              · rw [if_neg c19] at H
                have c19b0 : (a0_0 == 124) = false := beq_eq_false_iff_ne.mpr c19
                have c19b1 : (a0_0 != 124) = true := bne_iff_ne.mpr c19
                have H' := Aside0.mk H
                clear H
                go_wp2
                go_meet
                case rel => exact ⟨_, ((a0_0 == 61)), (by first | rfl | (simp; done) | (simp [*]; done)), H', ⟨by have := HJ2.out; first | omega | exact Nat.le_refl _⟩, ⟨by (with_reducible repeat (first | refine blk_drewN ?_ _ | refine blk_drew ?_ | refine blk_alloc ?_ _)); exact BK162.out⟩, ⟨by repeat (first | (with_reducible first | exact HB.out | apply below_alloc | apply pw_below_drewN | apply below_drew1 | refine below_set ?_ GE162.out) | exact HB.out)⟩⟩
          case rest =>
            clear HC17
            try clear c1
            try clear p1
            try clear q1
            try clear hx1
            try clear qi1
            try clear p2
            try clear c6
            try clear c6b0
            try clear c6b1
            try clear c7
            try clear c8
            try clear c9
            try clear c9b0
            try clear c9b1
            try clear c10
            try clear c10b0
            try clear c10b1
            try clear c12
            try clear c12b0
            try clear c12b1
            try clear c16
            try clear p16
            try clear q16
            try clear hx16
            try clear qi16
            try clear c18
            try clear c18b0
            try clear c18b1
            try clear c19
            try clear c19b0
            try clear c19b1
            try clear hcz13_0
            try clear hcz13_1
            try clear hcz15_0
            try clear hcz15_1
            try clear hcz5_0
            try clear hcz5_1
            try clear hcz8_0
            try clear hcz8_1
            try clear hfz13_0
            try clear hfz13_1
            try clear hfz15_0
            try clear hfz15_1
            try clear hfz5_0
            try clear hfz5_1
            try clear hfz8_0
            try clear hfz8_1
            try clear hx163_0
            try clear hx163_1
            try clear p163
            try clear p2
            try clear q163
            obtain ⟨kq, x30_16, rfl, HA, HJ16, BK162, HB⟩ := hcut
            cases kq with
            | zero => exact absurd HA.out (by simp [pomaderef01_value.j1])
            | succ kj16 =>
              have H := HA.out
              clear HA
              simp only [pomaderef01_value.j1] at H
              by_cases c20 : x30_16 = true
              · subst c20
                have H1 : (if 0 < (l0_1.length : Int) then ((pomaderef01_value.f kj16 ((rd_TNd l0_1 0).f0) ((rd_TNd l0_1 0).f1) a1).bind fun t166 => (if 1 < (l0_1.length : Int) then ((pomaderef01_value.f kj16 ((rd_TNd l0_1 1).f0) ((rd_TNd l0_1 1).f1) a1).bind fun t168 => (if a0_0 = 124 then (pomaderef01_value.j2 kj16 t166 t168 49 48 a0_0 l0_1) else (pomaderef01_value.j2 kj16 t166 t168 48 49 a0_0 l0_1))) else (none))) else (none)) = some r := by rw [if_pos rfl] at H; exact H
                clear H
                have H := H1
                clear H1
                by_cases c21 : 0 < (l0_1.length : Int)
                · rw [if_pos c21] at H
                  have c21b0 : decide (0 < (l0_1.length : Int)) = true := decide_eq_true c21
                  have c21b1 : decide (0 < l0_1.length) = true := decide_eq_true (by omega)
                  clear c21
                  replace H := Option.bind_eq_some_iff.mp H
                  obtain ⟨t166, A220, H⟩ := H
                  replace H : (if 1 < (l0_1.length : Int) then ((pomaderef01_value.f kj16 ((rd_TNd l0_1 1).f0) ((rd_TNd l0_1 1).f1) a1).bind fun t168 => (if a0_0 = 124 then (pomaderef01_value.j2 kj16 t166 t168 49 48 a0_0 l0_1) else (pomaderef01_value.j2 kj16 t166 t168 48 49 a0_0 l0_1))) else (none)) = some r := H
                  have A22 := Aside0.mk A220
                  clear A220
                  by_cases c23 : 1 < (l0_1.length : Int)
                  · rw [if_pos c23] at H
                    have c23b0 : decide (1 < (l0_1.length : Int)) = true := decide_eq_true c23
                    have c23b1 : decide (1 < l0_1.length) = true := decide_eq_true (by omega)
                    clear c23
                    replace H := Option.bind_eq_some_iff.mp H
                    obtain ⟨t168, A240, H⟩ := H
                    replace H : (if a0_0 = 124 then (pomaderef01_value.j2 kj16 t166 t168 49 48 a0_0 l0_1) else (pomaderef01_value.j2 kj16 t166 t168 48 49 a0_0 l0_1)) = some r := H
                    have A24 := Aside0.mk A240
                    clear A240
                    have HC25 := Aside0.mk H
                    clear H
                    try go_wp2
                    have n0_ := Aside0.mk (blk_drew BK162.out)
                    have n1_ := Aside0.mk (below_drew1 HB.out)
                    clear BK162
                    clear HB
                    have BK162 := n0_
                    have HB := n1_
                    clear n0_ n1_
                    have p165 : 0 ≤ (0 : Int) := (by omega)
                    have q165 : 0 < (l0_1.length : Int) := of_decide_eq_true (by first | (with_reducible assumption) | assumption)
                    obtain ⟨ad165, A165_1, c165_1, e165, hx165_0, hx165_1, hl165_1, hi165_1⟩ := at_TNd HR0_1.out 0 p165 q165
                    have hw165_1 := hx165_1
                    (try rw [show ((0 : Int)).toNat = 0 from rfl] at hw165_1)
                    (try rw [show 0 * 2 = 0 from rfl] at hw165_1)
                    (try rw [Addr.add_zero'] at hw165_1)
                    have hw165_0 := hx165_0
                    (try rw [show ((0 : Int)).toNat = 0 from rfl] at hw165_0)
                    (try rw [show 0 * 2 = 0 from rfl] at hw165_0)
                    (try rw [Addr.add_zero'] at hw165_0)
                    cases e165
                    have qi165 : (0 < l0_1.length) = True := eq_true (by omega)
                    (try rw [show ((0 : Int)).toNat = 0 from rfl] at hx165_0)
                    (try rw [show 0 * 2 = 0 from rfl] at hx165_0)
                    (try rw [Addr.add_zero'] at hx165_0)
                    (try rw [show ((0 : Int)).toNat = 0 from rfl] at hx165_1)
                    (try rw [show 0 * 2 = 0 from rfl] at hx165_1)
                    (try rw [Addr.add_zero'] at hx165_1)
                    replace hx165_0 := (HB.out.cell (World.block_lt_of_cell? w _ hx165_0)).trans hx165_0
                    replace hx165_1 := (HB.out.cell (World.block_lt_of_cell? w _ hx165_1)).trans hx165_1
                    have HR165_1 := Aside0.mk hi165_1
                    have HC165_1 := Aside0.mk hl165_1
                    clear hi165_1 hl165_1
                    replace p165 := eq_true p165
                    replace q165 := eq_true q165
                    have p167 : 0 ≤ (1 : Int) := (by omega)
                    have q167 : 1 < (l0_1.length : Int) := of_decide_eq_true (by first | (with_reducible assumption) | assumption)
                    obtain ⟨ad167, A167_1, c167_1, e167, hx167_0, hx167_1, hl167_1, hi167_1⟩ := at_TNd HR0_1.out 1 p167 q167
                    have hw167_1 := hx167_1
                    (try rw [show ((1 : Int)).toNat = 1 from rfl] at hw167_1)
                    (try rw [show 1 * 2 = 2 from rfl] at hw167_1)
                    (try simp only [Nat.reduceMul, Nat.reduceEqDiff, Go.Addr.add, ↓reduceIte] at hw167_1)
                    have hw167_0 := hx167_0
                    (try rw [show ((1 : Int)).toNat = 1 from rfl] at hw167_0)
                    (try rw [show 1 * 2 = 2 from rfl] at hw167_0)
                    (try simp only [Nat.reduceMul, Nat.reduceEqDiff, Go.Addr.add, ↓reduceIte] at hw167_0)
                    obtain rfl : ad165 = ad167 := (by injection e167)
                    (try simp only [show (1 : Int).toNat = 1 from rfl, Nat.reduceMul, Nat.reduceEqDiff, Go.Addr.add, ↓reduceIte] at hx167_0)
                    (try simp only [show (1 : Int).toNat = 1 from rfl, Nat.reduceMul, Nat.reduceEqDiff, Go.Addr.add, ↓reduceIte] at hx167_1)
                    have qi167 : (1 < l0_1.length) = True := eq_true (by omega)
                    (try rw [show ((1 : Int)).toNat = 1 from rfl] at hx167_0)
                    (try rw [show 1 * 2 = 2 from rfl] at hx167_0)
                    (try rw [show ((1 : Int)).toNat = 1 from rfl] at hx167_1)
                    (try rw [show 1 * 2 = 2 from rfl] at hx167_1)
                    replace hx167_0 := (HB.out.cell (World.block_lt_of_cell? w _ hx167_0)).trans hx167_0
                    replace hx167_1 := (HB.out.cell (World.block_lt_of_cell? w _ hx167_1)).trans hx167_1
                    have HR167_1 := Aside0.mk hi167_1
                    have HC167_1 := Aside0.mk hl167_1
                    clear hi167_1 hl167_1
                    replace p167 := eq_true p167
                    replace q167 := eq_true q167
                    refine start_ (n := 14) (S := fun w' => w'.cell? ⟨gb162, 0, none⟩ = some (.int .u8 a0_0) ∧ w'.cell? ⟨gb162, 1, none⟩ = some (.slice (some ad165) l0_1.length c0_1) ∧ w'.cell? ad165 = some (.int .u8 ((rd_TNd l0_1 0).f0)) ∧ w'.cell? ⟨ad165.block, ad165.off + 1, none⟩ = some (.slice A165_1 ((rd_TNd l0_1 0).f1).length c165_1) ∧ w'.cell? ⟨ad165.block, ad165.off + 2, none⟩ = some (.int .u8 ((rd_TNd l0_1 1).f0)) ∧ w'.cell? ⟨ad165.block, ad165.off + 2 + 1, none⟩ = some (.slice A167_1 ((rd_TNd l0_1 1).f1).length c167_1)) (ds := []) #[false, false, false, false, false, false, false, false, false, false, false, false, false, false] (by kernel_rfl) rfl rfl ⟨(blk_cell BK162.out 0).trans rfl, (blk_cell BK162.out 1).trans rfl, ((HB.out.cell (World.block_lt_of_cell? w _ hw165_0)).trans hw165_0), ((HB.out.cell (World.block_lt_of_cell? w _ hw165_1)).trans hw165_1), ((HB.out.cell (World.block_lt_of_cell? w _ hw167_0)).trans hw167_0), ((HB.out.cell (World.block_lt_of_cell? w _ hw167_1)).trans hw167_1)⟩ (fun hHeld => ?_); refine with_tabW pomaderef01_value.tab13 pomaderef01_value.bits13 (fun HT_ HW_ => ?_)
                    generalize wc.drew = w26 at BK162 HB HR165_1 HR167_1 hx165_0 hx165_1 hx167_0 hx167_1 hHeld ⊢
                    refine pure_ (i := 0) (N := some 34) (v := ?_) (a' := ?_) #[true, false, false, false, false, false, false, false, false, false, false, false, false, false] rfl rfl (any_of HT_.out (by kernel_rfl)) (fun _ _ _ h => h) (Or.inl ⟨by rfl, ?_⟩) ?_ ?_
                    rotate_left
                    · intro w'
                      go_simp
                      with_reducible rfl
                    rotate_left
                    · simp only [Act.put, List.setIfInBounds_toArray, List.set_cons_zero, List.set_cons_succ, i64_w, i32_w]
                      rfl
                    refine pure_ (i := 4) (N := some 38) (v := ?_) (a' := ?_) #[true, false, false, false, true, false, false, false, false, false, false, false, false, false] rfl rfl (any_of HT_.out (by kernel_rfl)) (fun _ _ _ h => h) (Or.inl ⟨by rfl, ?_⟩) ?_ ?_
                    rotate_left
                    · intro w'
                      go_simp
                      with_reducible rfl
                    rotate_left
                    · simp only [Act.put, List.setIfInBounds_toArray, List.set_cons_zero, List.set_cons_succ, i64_w, i32_w]
                      rfl
                    refine pure_ (i := 6) (N := some 40) (v := ?_) (a' := ?_) #[true, false, false, false, true, false, true, false, false, false, false, false, false, false] rfl rfl (any_of HT_.out (by kernel_rfl)) (fun _ _ _ h => h) (Or.inl ⟨by rfl, ?_⟩) ?_ ?_
                    rotate_left
                    · intro w'
                      go_simp
                      with_reducible rfl
                    rotate_left
                    · simp only [Act.put, List.setIfInBounds_toArray, List.set_cons_zero, List.set_cons_succ, i64_w, i32_w]
                      rfl
                    refine pure_ (i := 10) (N := some 44) (v := ?_) (a' := ?_) #[true, false, false, false, true, false, true, false, false, false, true, false, false, false] rfl rfl (any_of HT_.out (by kernel_rfl)) (fun _ _ _ h => h) (Or.inl ⟨by rfl, ?_⟩) ?_ ?_
                    rotate_left
                    · intro w'
                      go_simp
                      with_reducible rfl
                    rotate_left
                    · simp only [Act.put, List.setIfInBounds_toArray, List.set_cons_zero, List.set_cons_succ, i64_w, i32_w]
                      rfl
                    refine take_ (i := 1) (N := some 35) (v := ?_) (a' := ?_) #[true, true, false, false, true, false, true, false, false, false, true, false, false, false] rfl rfl (take_ofW HT_.out HW_.out (by kernel_rfl)) (fun _ _ _ h => h) (Or.inl ⟨by rfl, ?_⟩) hHeld ?_ ?_
                    rotate_left
                    · rintro w' ⟨s0, s1, s2, s3, s4, s5⟩
                      go_simp
                      with_reducible rfl
                    rotate_left
                    · simp only [Act.put, List.setIfInBounds_toArray, List.set_cons_zero, List.set_cons_succ, i64_w, i32_w]
                      rfl
                    refine pure_ (i := 2) (N := some 36) (v := ?_) (a' := ?_) #[true, true, true, false, true, false, true, false, false, false, true, false, false, false] rfl rfl (any_of HT_.out (by kernel_rfl)) (fun _ _ _ h => h) (Or.inl ⟨by rfl, ?_⟩) ?_ ?_
                    rotate_left
                    · intro w'
                      go_simp
                      with_reducible rfl
                    rotate_left
                    · simp only [Act.put, List.setIfInBounds_toArray, List.set_cons_zero, List.set_cons_succ, i64_w, i32_w]
                      rfl
                    refine take_ (i := 3) (N := some 37) (v := ?_) (a' := ?_) #[true, true, true, true, true, false, true, false, false, false, true, false, false, false] rfl rfl (take_ofW HT_.out HW_.out (by kernel_rfl)) (fun _ _ _ h => h) (Or.inl ⟨by rfl, ?_⟩) hHeld ?_ ?_
                    rotate_left
                    · rintro w' ⟨s0, s1, s2, s3, s4, s5⟩
                      go_simp
                      with_reducible rfl
                    rotate_left
                    · simp only [Act.put, List.setIfInBounds_toArray, List.set_cons_zero, List.set_cons_succ, i64_w, i32_w]
                      rfl
                    refine take_ (i := 7) (N := some 41) (v := ?_) (a' := ?_) #[true, true, true, true, true, false, true, true, false, false, true, false, false, false] rfl rfl (take_ofW HT_.out HW_.out (by kernel_rfl)) (fun _ _ _ h => h) (Or.inl ⟨by rfl, ?_⟩) hHeld ?_ ?_
                    rotate_left
                    · rintro w' ⟨s0, s1, s2, s3, s4, s5⟩
                      go_simp
                      with_reducible rfl
                    rotate_left
                    · simp only [Act.put, List.setIfInBounds_toArray, List.set_cons_zero, List.set_cons_succ, i64_w, i32_w]
                      rfl
                    refine pure_ (i := 8) (N := some 42) (v := ?_) (a' := ?_) #[true, true, true, true, true, false, true, true, true, false, true, false, false, false] rfl rfl (any_of HT_.out (by kernel_rfl)) (fun _ _ _ h => h) (Or.inl ⟨by rfl, ?_⟩) ?_ ?_
                    rotate_left
                    · intro w'
                      go_simp
                      with_reducible rfl
                    rotate_left
                    · simp only [Act.put, List.setIfInBounds_toArray, List.set_cons_zero, List.set_cons_succ, i64_w, i32_w]
                      rfl
                    refine take_ (i := 9) (N := some 43) (v := ?_) (a' := ?_) #[true, true, true, true, true, false, true, true, true, true, true, false, false, false] rfl rfl (take_ofW HT_.out HW_.out (by kernel_rfl)) (fun _ _ _ h => h) (Or.inl ⟨by rfl, ?_⟩) hHeld ?_ ?_
                    rotate_left
                    · rintro w' ⟨s0, s1, s2, s3, s4, s5⟩
                      go_simp
                      with_reducible rfl
                    rotate_left
                    · simp only [Act.put, List.setIfInBounds_toArray, List.set_cons_zero, List.set_cons_succ, i64_w, i32_w]
                      rfl
                    refine one_ (i := 5) (N := some 39) #[true, true, true, true, true, true, true, true, true, true, true, false, false, false] rfl rfl (one_of HT_.out (by kernel_rfl)) (by decide) (fun K hK => ?_)
                    refine goes_ Tryz.func89 (by kernel_rfl) rfl #[.agg #[.int .u8 ((rd_TNd l0_1 0).f0), .slice A165_1 ((rd_TNd l0_1 0).f1).length c165_1], .string a1] (by rfl) rfl rfl (by (try simp only [List.map_toArray, List.map_cons, List.map_nil]); first | done | rfl | (simp only [List.length_drop, List.length_take]; rfl)) ?_
                    with_reducible refine (ih kj16 (by have := HJ2.out; have := HJ16.out; omega) ((rd_TNd l0_1 0).f0) _ _ ((rd_TNd l0_1 0).f1) a1 t166 _ ?side1 ?side2 A22.out).mono ?_
                    (case side1 => repeat (first | exact (Kd.C_below HR165_1.out HB.out) | (with_reducible refine Kd.C_alloc ?_ _) | (with_reducible refine Kd.C_drewN ?_ _) | (with_reducible refine Kd.C_drew ?_)))
                    (case side2 => exact HC165_1.out)
                    rintro e w27 ⟨rfl, hb⟩
                    refine ⟨_, rfl, ?_⟩
                    have n0_ := Aside0.mk (blk_below (g := gb162) (o := .cells #[.int .u8 a0_0, .slice (some ad165) l0_1.length c0_1] 99 (0, 0)) (by (with_reducible repeat (first | refine blk_drewN ?_ _ | refine blk_drew ?_ | refine blk_alloc ?_ _)); exact BK162.out) hb)
                    have n1_ := Aside0.mk (below_step (by repeat (first | (with_reducible first | exact HB.out | apply below_alloc | apply pw_below_drewN | apply below_drew1 | refine below_set ?_ GE162.out) | exact HB.out)) hb)
                    clear BK162
                    clear HB
                    have BK162 := n0_
                    have HB := n1_
                    clear n0_ n1_
                    (try clear hb)
                    (try clear hb2)
                    (try clear hk)
                    (try clear hi)
                    refine hK.out _ _ ⟨(blk_cell BK162.out 0).trans rfl, (blk_cell BK162.out 1).trans rfl, ((HB.out.cell (World.block_lt_of_cell? w _ hw165_0)).trans hw165_0), ((HB.out.cell (World.block_lt_of_cell? w _ hw165_1)).trans hw165_1), ((HB.out.cell (World.block_lt_of_cell? w _ hw167_0)).trans hw167_0), ((HB.out.cell (World.block_lt_of_cell? w _ hw167_1)).trans hw167_1)⟩ (fun hHeld => ?_)
                    clear hK K
                    refine norm_ (a' := ?_) ?_ ?_
                    rotate_left
                    · show Act.put _ (some 39) _ = _
                      simp only [Act.put, List.setIfInBounds_toArray, List.set_cons_zero, List.set_cons_succ, i64_w, i32_w]
                      rfl
                    refine one_ (i := 11) (N := some 45) #[true, true, true, true, true, true, true, true, true, true, true, true, false, false] rfl rfl (one_of HT_.out (by kernel_rfl)) (by decide) (fun K hK => ?_)
                    refine goes_ Tryz.func89 (by kernel_rfl) rfl #[.agg #[.int .u8 ((rd_TNd l0_1 1).f0), .slice A167_1 ((rd_TNd l0_1 1).f1).length c167_1], .string a1] (by rfl) rfl rfl (by (try simp only [List.map_toArray, List.map_cons, List.map_nil]); first | done | rfl | (simp only [List.length_drop, List.length_take]; rfl)) ?_
                    with_reducible refine (ih kj16 (by have := HJ2.out; have := HJ16.out; omega) ((rd_TNd l0_1 1).f0) _ _ ((rd_TNd l0_1 1).f1) a1 t168 _ ?side1 ?side2 A24.out).mono ?_
                    (case side1 => repeat (first | exact (Kd.C_below HR167_1.out HB.out) | (with_reducible refine Kd.C_alloc ?_ _) | (with_reducible refine Kd.C_drewN ?_ _) | (with_reducible refine Kd.C_drew ?_)))
                    (case side2 => exact HC167_1.out)
                    rintro e w28 ⟨rfl, hb⟩
                    refine ⟨_, rfl, ?_⟩
                    have n0_ := Aside0.mk (blk_below (g := gb162) (o := .cells #[.int .u8 a0_0, .slice (some ad165) l0_1.length c0_1] 99 (0, 0)) (by (with_reducible repeat (first | refine blk_drewN ?_ _ | refine blk_drew ?_ | refine blk_alloc ?_ _)); exact BK162.out) hb)
                    have n1_ := Aside0.mk (below_step (by repeat (first | (with_reducible first | exact HB.out | apply below_alloc | apply pw_below_drewN | apply below_drew1 | refine below_set ?_ GE162.out) | exact HB.out)) hb)
                    clear BK162
                    clear HB
                    have BK162 := n0_
                    have HB := n1_
                    clear n0_ n1_
                    (try clear hb)
                    (try clear hb2)
                    (try clear hk)
                    (try clear hi)
                    refine hK.out _ _ ⟨(blk_cell BK162.out 0).trans rfl, (blk_cell BK162.out 1).trans rfl, ((HB.out.cell (World.block_lt_of_cell? w _ hw165_0)).trans hw165_0), ((HB.out.cell (World.block_lt_of_cell? w _ hw165_1)).trans hw165_1), ((HB.out.cell (World.block_lt_of_cell? w _ hw167_0)).trans hw167_0), ((HB.out.cell (World.block_lt_of_cell? w _ hw167_1)).trans hw167_1)⟩ (fun hHeld => ?_)
                    clear hK K
                    refine norm_ (a' := ?_) ?_ ?_
                    rotate_left
                    · show Act.put _ (some 45) _ = _
                      simp only [Act.put, List.setIfInBounds_toArray, List.set_cons_zero, List.set_cons_succ, i64_w, i32_w]
                      rfl
                    refine pure_ (i := 12) (N := some 6) (v := ?_) (a' := ?_) #[true, true, true, true, true, true, true, true, true, true, true, true, true, false] rfl rfl (any_of HT_.out (by kernel_rfl)) (fun _ _ _ h => h) (Or.inl ⟨by rfl, ?_⟩) ?_ ?_
                    rotate_left
                    · intro w'
                      go_simp
                      with_reducible rfl
                    rotate_left
                    · simp only [Act.put, List.setIfInBounds_toArray, List.set_cons_zero, List.set_cons_succ, i64_w, i32_w]
                      rfl
                    refine pure_ (i := 13) (N := some 7) (v := ?_) (a' := ?_) #[true, true, true, true, true, true, true, true, true, true, true, true, true, true] rfl rfl (any_of HT_.out (by kernel_rfl)) (fun _ _ _ h => h) (Or.inl ⟨by rfl, ?_⟩) ?_ ?_
                    rotate_left
                    · intro w'
                      go_simp
                      with_reducible rfl
                    rotate_left
                    · simp only [Act.put, List.setIfInBounds_toArray, List.set_cons_zero, List.set_cons_succ, i64_w, i32_w]
                      rfl
                    refine done_ (done_of HT_.out (by kernel_rfl)) ?_
                    have hcz29_0 : w28.cell? ⟨gb162, 0, none⟩ = some (.int .u8 a0_0) := (blk_cell BK162.out 0).trans rfl
                    have hcz29_1 : w28.cell? ⟨gb162, 1, none⟩ = some (.slice (some ad165) l0_1.length c0_1) := (blk_cell BK162.out 1).trans rfl
                    have hfz29_0 := blk_frozen BK162.out 0
                    have hfz29_1 := blk_frozen BK162.out 1
                    go_upto_if 48 with (fail)
                    go_cut [8, 9] (fun v8 v9 wc => ∃ (kq : Nat) (x8_24 : Int) (x9_24 : Int), v8 = .int .u8 x8_24 ∧ v9 = .int .u8 x9_24 ∧ Aside0 (pomaderef01_value.j2 kq t166 t168 x8_24 x9_24 a0_0 l0_1 = some r) ∧ Aside0 (kq ≤ kj16) ∧ Aside0 (wc.heap[gb162]? = some (.cells #[.int .u8 a0_0, (.slice (some ad165) l0_1.length c0_1)] 99 (0, 0))) ∧ Aside0 (Below w.heap.size w wc))
                    case first =>
                      have H := HC25.out
                      clear HC25
                      by_cases c30 : a0_0 = 124
                      · rw [if_pos c30] at H
                        have c30b0 : (a0_0 == 124) = true := beq_iff_eq.mpr c30
                        have c30b1 : (a0_0 != 124) = false := bne_eq_false_iff_eq.mpr c30
                        clear c30
                        (first | rw [c30b0] | (simp only [i64_w, i32_w]; rw [c30b0]) | skip)
                        have H' := Aside0.mk H
                        clear H
                        go_wp2
                        go_meet
                        case rel => exact ⟨_, (49), (48), (by first | rfl | (simp; done) | (simp [*]; done)), (by first | rfl | (simp; done) | (simp [*]; done)), H', ⟨by have := HJ2.out; have := HJ16.out; first | omega | exact Nat.le_refl _⟩, ⟨by (with_reducible repeat (first | refine blk_drewN ?_ _ | refine blk_drew ?_ | refine blk_alloc ?_ _)); exact BK162.out⟩, ⟨by repeat (first | (with_reducible first | exact HB.out | apply below_alloc | apply pw_below_drewN | apply below_drew1 | refine below_set ?_ GE162.out) | exact HB.out)⟩⟩
                      · rw [if_neg c30] at H
                        have c30b0 : (a0_0 == 124) = false := beq_eq_false_iff_ne.mpr c30
                        have c30b1 : (a0_0 != 124) = true := bne_iff_ne.mpr c30
                        (first | rw [c30b0] | (simp only [i64_w, i32_w]; rw [c30b0]) | skip)
                        have H' := Aside0.mk H
                        clear H
                        go_wp2
                        go_meet
                        case rel => exact ⟨_, (48), (49), (by first | rfl | (simp; done) | (simp [*]; done)), (by first | rfl | (simp; done) | (simp [*]; done)), H', ⟨by have := HJ2.out; have := HJ16.out; first | omega | exact Nat.le_refl _⟩, ⟨by (with_reducible repeat (first | refine blk_drewN ?_ _ | refine blk_drew ?_ | refine blk_alloc ?_ _)); exact BK162.out⟩, ⟨by repeat (first | (with_reducible first | exact HB.out | apply below_alloc | apply pw_below_drewN | apply below_drew1 | refine below_set ?_ GE162.out) | exact HB.out)⟩⟩
                    case rest =>
                      clear HC25
                      try clear c1
                      try clear p1
                      try clear q1
                      try clear hx1
                      try clear qi1
                      try clear c2
                      try clear p2
                      try clear c3
                      try clear c6
                      try clear c6b0
                      try clear c6b1
                      try clear c7
                      try clear c8
                      try clear c9
                      try clear c9b0
                      try clear c9b1
                      try clear c10
                      try clear c10b0
                      try clear c10b1
                      try clear c12
                      try clear c12b0
                      try clear c12b1
                      try clear c16
                      try clear p16
                      try clear q16
                      try clear hx16
                      try clear qi16
                      try clear c18
                      try clear c18b0
                      try clear c18b1
                      try clear c19
                      try clear c19b0
                      try clear c19b1
                      try clear c20
                      try clear c21
                      try clear c21b0
                      try clear c21b1
                      try clear c23
                      try clear c23b0
                      try clear c23b1
                      try clear c30
                      try clear c30b0
                      try clear c30b1
                      try clear hcz13_0
                      try clear hcz13_1
                      try clear hcz15_0
                      try clear hcz15_1
                      try clear hcz29_0
                      try clear hcz29_1
                      try clear hcz5_0
                      try clear hcz5_1
                      try clear hcz8_0
                      try clear hcz8_1
                      try clear hfz13_0
                      try clear hfz13_1
                      try clear hfz15_0
                      try clear hfz15_1
                      try clear hfz29_0
                      try clear hfz29_1
                      try clear hfz5_0
                      try clear hfz5_1
                      try clear hfz8_0
                      try clear hfz8_1
                      try clear hx163_0
                      try clear hx163_1
                      try clear hx165_0
                      try clear hx165_1
                      try clear hx167_0
                      try clear hx167_1
                      try clear p1
                      try clear p16
                      try clear p163
                      try clear p165
                      try clear p167
                      try clear p2
                      try clear q1
                      try clear q16
                      try clear q163
                      try clear q165
                      try clear q167
                      obtain ⟨kq, x8_24, x9_24, rfl, rfl, HA, HJ24, BK162, HB⟩ := hcut
                      cases kq with
                      | zero => exact absurd HA.out (by simp [pomaderef01_value.j2])
                      | succ kj24 =>
                        have H := HA.out
                        clear HA
                        simp only [pomaderef01_value.j2] at H
                        have HC31 := Aside0.mk H
                        clear H
                        go_upto_region 18 with (fail)
                        go_cut [49] (fun v49 wc => ∃ (kq : Nat) (x49_30 : Bool), v49 = .bool x49_30 ∧ Aside0 (pomaderef01_value.j3 kq t166 t168 x8_24 x9_24 x49_30 a0_0 l0_1 = some r) ∧ Aside0 (kq ≤ kj24) ∧ Aside0 (wc.heap[gb162]? = some (.cells #[.int .u8 a0_0, (.slice (some ad165) l0_1.length c0_1)] 99 (0, 0))) ∧ Aside0 (Below w.heap.size w wc))
                        case first =>
                          have H := HC31.out
                          clear HC31
                          by_cases c32 : a0_0 = 61
                          · rw [if_pos c32] at H
                            have c32b0 : (a0_0 == 61) = true := beq_iff_eq.mpr c32
                            have c32b1 : (a0_0 != 61) = false := bne_eq_false_iff_eq.mpr c32
                            clear c32
                            (first | rw [c32b0] | (simp only [i64_w, i32_w]; rw [c32b0]) | skip)
                            by_cases c33 : t166 = 63
                            · rw [if_pos c33] at H
                              have c33b0 : (t166 == 63) = true := beq_iff_eq.mpr c33
                              have c33b1 : (t166 != 63) = false := bne_eq_false_iff_eq.mpr c33
                              clear c33
                              have H' := Aside0.mk H
                              clear H
                              have hcz34_0 : wc.cell? ⟨gb162, 0, none⟩ = some (.int .u8 a0_0) := (blk_cell BK162.out 0).trans rfl
                              have hcz34_1 : wc.cell? ⟨gb162, 1, none⟩ = some (.slice (some ad165) l0_1.length c0_1) := (blk_cell BK162.out 1).trans rfl
                              have hfz34_0 := blk_frozen BK162.out 0
                              have hfz34_1 := blk_frozen BK162.out 1
                              go_wp2
                              go_meet
                              case rel => exact ⟨_, (true), (by first | rfl | (simp; done) | (simp [*]; done)), H', ⟨by have := HJ2.out; have := HJ16.out; have := HJ24.out; first | omega | exact Nat.le_refl _⟩, ⟨by (with_reducible repeat (first | refine blk_drewN ?_ _ | refine blk_drew ?_ | refine blk_alloc ?_ _)); exact BK162.out⟩, ⟨by repeat (first | (with_reducible first | exact HB.out | apply below_alloc | apply pw_below_drewN | apply below_drew1 | refine below_set ?_ GE162.out) | exact HB.out)⟩⟩
                            · rw [if_neg c33] at H
                              have c33b0 : (t166 == 63) = false := beq_eq_false_iff_ne.mpr c33
                              have c33b1 : (t166 != 63) = true := bne_iff_ne.mpr c33
                              have H' := Aside0.mk H
                              clear H
                              have hcz35_0 : wc.cell? ⟨gb162, 0, none⟩ = some (.int .u8 a0_0) := (blk_cell BK162.out 0).trans rfl
                              have hcz35_1 : wc.cell? ⟨gb162, 1, none⟩ = some (.slice (some ad165) l0_1.length c0_1) := (blk_cell BK162.out 1).trans rfl
                              have hfz35_0 := blk_frozen BK162.out 0
                              have hfz35_1 := blk_frozen BK162.out 1
                              go_wp2
                              go_meet
                              case rel => exact ⟨_, ((t168 == 63)), (by first | rfl | (simp; done) | (simp [*]; done)), H', ⟨by have := HJ2.out; have := HJ16.out; have := HJ24.out; first | omega | exact Nat.le_refl _⟩, ⟨by (with_reducible repeat (first | refine blk_drewN ?_ _ | refine blk_drew ?_ | refine blk_alloc ?_ _)); exact BK162.out⟩, ⟨by repeat (first | (with_reducible first | exact HB.out | apply below_alloc | apply pw_below_drewN | apply below_drew1 | refine below_set ?_ GE162.out) | exact HB.out)⟩⟩
                          · rw [if_neg c32] at H
                            have c32b0 : (a0_0 == 61) = false := beq_eq_false_iff_ne.mpr c32
                            have c32b1 : (a0_0 != 61) = true := bne_iff_ne.mpr c32
                            (first | rw [c32b0] | (simp only [i64_w, i32_w]; rw [c32b0]) | skip)
                            have H' := Aside0.mk H
                            clear H
                            have hcz36_0 : wc.cell? ⟨gb162, 0, none⟩ = some (.int .u8 a0_0) := (blk_cell BK162.out 0).trans rfl
                            have hcz36_1 : wc.cell? ⟨gb162, 1, none⟩ = some (.slice (some ad165) l0_1.length c0_1) := (blk_cell BK162.out 1).trans rfl
                            have hfz36_0 := blk_frozen BK162.out 0
                            have hfz36_1 := blk_frozen BK162.out 1
                            go_wp2
                            go_meet
                            case rel => exact ⟨_, (false), (by first | rfl | (simp; done) | (simp [*]; done)), H', ⟨by have := HJ2.out; have := HJ16.out; have := HJ24.out; first | omega | exact Nat.le_refl _⟩, ⟨by (with_reducible repeat (first | refine blk_drewN ?_ _ | refine blk_drew ?_ | refine blk_alloc ?_ _)); exact BK162.out⟩, ⟨by repeat (first | (with_reducible first | exact HB.out | apply below_alloc | apply pw_below_drewN | apply below_drew1 | refine below_set ?_ GE162.out) | exact HB.out)⟩⟩
                        case rest =>
                          clear HC31
                          try clear c1
                          try clear p1
                          try clear q1
                          try clear hx1
                          try clear qi1
                          try clear c2
                          try clear p2
                          try clear c3
                          try clear c6
                          try clear c6b0
                          try clear c6b1
                          try clear c7
                          try clear c8
                          try clear c9
                          try clear c9b0
                          try clear c9b1
                          try clear c10
                          try clear c10b0
                          try clear c10b1
                          try clear c12
                          try clear c12b0
                          try clear c12b1
                          try clear c16
                          try clear p16
                          try clear q16
                          try clear hx16
                          try clear qi16
                          try clear c18
                          try clear c18b0
                          try clear c18b1
                          try clear c19
                          try clear c19b0
                          try clear c19b1
                          try clear c20
                          try clear c21
                          try clear c21b0
                          try clear c21b1
                          try clear c23
                          try clear c23b0
                          try clear c23b1
                          try clear c30
                          try clear c30b0
                          try clear c30b1
                          try clear c32
                          try clear c32b0
                          try clear c32b1
                          try clear c33
                          try clear c33b0
                          try clear c33b1
                          try clear hcz13_0
                          try clear hcz13_1
                          try clear hcz15_0
                          try clear hcz15_1
                          try clear hcz29_0
                          try clear hcz29_1
                          try clear hcz34_0
                          try clear hcz34_1
                          try clear hcz35_0
                          try clear hcz35_1
                          try clear hcz36_0
                          try clear hcz36_1
                          try clear hcz5_0
                          try clear hcz5_1
                          try clear hcz8_0
                          try clear hcz8_1
                          try clear hfz13_0
                          try clear hfz13_1
                          try clear hfz15_0
                          try clear hfz15_1
                          try clear hfz29_0
                          try clear hfz29_1
                          try clear hfz34_0
                          try clear hfz34_1
                          try clear hfz35_0
                          try clear hfz35_1
                          try clear hfz36_0
                          try clear hfz36_1
                          try clear hfz5_0
                          try clear hfz5_1
                          try clear hfz8_0
                          try clear hfz8_1
                          try clear hx163_0
                          try clear hx163_1
                          try clear hx165_0
                          try clear hx165_1
                          try clear hx167_0
                          try clear hx167_1
                          try clear p1
                          try clear p16
                          try clear p163
                          try clear p165
                          try clear p167
                          try clear p2
                          try clear q1
                          try clear q16
                          try clear q163
                          try clear q165
                          try clear q167
                          obtain ⟨kq, x49_30, rfl, HA, HJ30, BK162, HB⟩ := hcut
                          cases kq with
                          | zero => exact absurd HA.out (by simp [pomaderef01_value.j3])
                          | succ kj30 =>
                            have H := HA.out
                            clear HA
                            simp only [pomaderef01_value.j3] at H
                            by_cases c37 : x49_30 = true
                            · subst c37
                              have H1 : (some 63) = some r := by rw [if_pos rfl] at H; exact H
                              clear H
                              have H := H1
                              clear H1
                              obtain rfl := Option.some.inj H
                              go_wp2
                              go_ret
                              exact ⟨by first | rfl | (simp [errW_none, errW_some] <;> rfl) | (simp [*, errW_none, errW_some] <;> rfl), by repeat (first | (with_reducible first | exact HB.out | apply below_alloc | apply pw_below_drewN | apply below_drew1 | refine below_set ?_ GE162.out) | exact HB.out)⟩
                            · replace c37 := Bool.eq_false_iff.mpr c37
                              subst c37
                              have H1 : (if a0_0 = 61 then (pomaderef01_value.j4 kj30 t166 t168 x8_24 x9_24 (t166 == t168) a0_0 l0_1) else (pomaderef01_value.j4 kj30 t166 t168 x8_24 x9_24 false a0_0 l0_1)) = some r := by rw [if_neg (show ¬ (false = true) by decide)] at H; exact H
                              clear H
                              have H := H1
                              clear H1
                              have HC38 := Aside0.mk H
                              clear H
                              go_upto_region 20 with (fail)
                              go_cut [61] (fun v61 wc => ∃ (kq : Nat) (x61_37 : Bool), v61 = .bool x61_37 ∧ Aside0 (pomaderef01_value.j4 kq t166 t168 x8_24 x9_24 x61_37 a0_0 l0_1 = some r) ∧ Aside0 (kq ≤ kj30) ∧ Aside0 (wc.heap[gb162]? = some (.cells #[.int .u8 a0_0, (.slice (some ad165) l0_1.length c0_1)] 99 (0, 0))) ∧ Aside0 (Below w.heap.size w wc))
                              case first =>
                                have H := HC38.out
                                clear HC38
                                by_cases c39 : a0_0 = 61
                                · rw [if_pos c39] at H
                                  have c39b0 : (a0_0 == 61) = true := beq_iff_eq.mpr c39
                                  have c39b1 : (a0_0 != 61) = false := bne_eq_false_iff_eq.mpr c39
                                  clear c39
                                  (first | rw [c39b0] | (simp only [i64_w, i32_w]; rw [c39b0]) | skip)
                                  have H' := Aside0.mk H
                                  clear H
                                  have hcz40_0 : wc.cell? ⟨gb162, 0, none⟩ = some (.int .u8 a0_0) := (blk_cell BK162.out 0).trans rfl
                                  have hcz40_1 : wc.cell? ⟨gb162, 1, none⟩ = some (.slice (some ad165) l0_1.length c0_1) := (blk_cell BK162.out 1).trans rfl
                                  have hfz40_0 := blk_frozen BK162.out 0
                                  have hfz40_1 := blk_frozen BK162.out 1
                                  go_wp2
                                  go_meet
                                  case rel => exact ⟨_, ((t166 == t168)), (by first | rfl | (simp; done) | (simp [*]; done)), H', ⟨by have := HJ2.out; have := HJ16.out; have := HJ24.out; have := HJ30.out; first | omega | exact Nat.le_refl _⟩, ⟨by (with_reducible repeat (first | refine blk_drewN ?_ _ | refine blk_drew ?_ | refine blk_alloc ?_ _)); exact BK162.out⟩, ⟨by repeat (first | (with_reducible first | exact HB.out | apply below_alloc | apply pw_below_drewN | apply below_drew1 | refine below_set ?_ GE162.out) | exact HB.out)⟩⟩
                                · rw [if_neg c39] at H
                                  have c39b0 : (a0_0 == 61) = false := beq_eq_false_iff_ne.mpr c39
                                  have c39b1 : (a0_0 != 61) = true := bne_iff_ne.mpr c39
                                  (first | rw [c39b0] | (simp only [i64_w, i32_w]; rw [c39b0]) | skip)
                                  have H' := Aside0.mk H
                                  clear H
                                  have hcz41_0 : wc.cell? ⟨gb162, 0, none⟩ = some (.int .u8 a0_0) := (blk_cell BK162.out 0).trans rfl
                                  have hcz41_1 : wc.cell? ⟨gb162, 1, none⟩ = some (.slice (some ad165) l0_1.length c0_1) := (blk_cell BK162.out 1).trans rfl
                                  have hfz41_0 := blk_frozen BK162.out 0
                                  have hfz41_1 := blk_frozen BK162.out 1
                                  go_wp2
                                  go_meet
                                  case rel => exact ⟨_, (false), (by first | rfl | (simp; done) | (simp [*]; done)), H', ⟨by have := HJ2.out; have := HJ16.out; have := HJ24.out; have := HJ30.out; first | omega | exact Nat.le_refl _⟩, ⟨by (with_reducible repeat (first | refine blk_drewN ?_ _ | refine blk_drew ?_ | refine blk_alloc ?_ _)); exact BK162.out⟩, ⟨by repeat (first | (with_reducible first | exact HB.out | apply below_alloc | apply pw_below_drewN | apply below_drew1 | refine below_set ?_ GE162.out) | exact HB.out)⟩⟩
                              case rest =>
                                clear HC38
                                try clear c1
                                try clear p1
                                try clear q1
                                try clear hx1
                                try clear qi1
                                try clear c2
                                try clear p2
                                try clear c3
                                try clear c6
                                try clear c6b0
                                try clear c6b1
                                try clear c7
                                try clear c8
                                try clear c9
                                try clear c9b0
                                try clear c9b1
                                try clear c10
                                try clear c10b0
                                try clear c10b1
                                try clear c12
                                try clear c12b0
                                try clear c12b1
                                try clear c16
                                try clear p16
                                try clear q16
                                try clear hx16
                                try clear qi16
                                try clear c18
                                try clear c18b0
                                try clear c18b1
                                try clear c19
                                try clear c19b0
                                try clear c19b1
                                try clear c20
                                try clear c21
                                try clear c21b0
                                try clear c21b1
                                try clear c23
                                try clear c23b0
                                try clear c23b1
                                try clear c30
                                try clear c30b0
                                try clear c30b1
                                try clear c32
                                try clear c32b0
                                try clear c32b1
                                try clear c33
                                try clear c33b0
                                try clear c33b1
                                try clear c37
                                try clear c39
                                try clear c39b0
                                try clear c39b1
                                try clear hcz13_0
                                try clear hcz13_1
                                try clear hcz15_0
                                try clear hcz15_1
                                try clear hcz29_0
                                try clear hcz29_1
                                try clear hcz34_0
                                try clear hcz34_1
                                try clear hcz35_0
                                try clear hcz35_1
                                try clear hcz36_0
                                try clear hcz36_1
                                try clear hcz40_0
                                try clear hcz40_1
                                try clear hcz41_0
                                try clear hcz41_1
                                try clear hcz5_0
                                try clear hcz5_1
                                try clear hcz8_0
                                try clear hcz8_1
                                try clear hfz13_0
                                try clear hfz13_1
                                try clear hfz15_0
                                try clear hfz15_1
                                try clear hfz29_0
                                try clear hfz29_1
                                try clear hfz34_0
                                try clear hfz34_1
                                try clear hfz35_0
                                try clear hfz35_1
                                try clear hfz36_0
                                try clear hfz36_1
                                try clear hfz40_0
                                try clear hfz40_1
                                try clear hfz41_0
                                try clear hfz41_1
                                try clear hfz5_0
                                try clear hfz5_1
                                try clear hfz8_0
                                try clear hfz8_1
                                try clear hx163_0
                                try clear hx163_1
                                try clear hx165_0
                                try clear hx165_1
                                try clear hx167_0
                                try clear hx167_1
                                try clear p1
                                try clear p16
                                try clear p163
                                try clear p165
                                try clear p167
                                try clear p2
                                try clear q1
                                try clear q16
                                try clear q163
                                try clear q165
                                try clear q167
                                obtain ⟨kq, x61_37, rfl, HA, HJ37, BK162, HB⟩ := hcut
                                cases kq with
                                | zero => exact absurd HA.out (by simp [pomaderef01_value.j4])
                                | succ kj37 =>
                                  have H := HA.out
                                  clear HA
                                  simp only [pomaderef01_value.j4] at H
                                  by_cases c42 : x61_37 = true
                                  · subst c42
                                    have H1 : (some 49) = some r := by rw [if_pos rfl] at H; exact H
                                    clear H
                                    have H := H1
                                    clear H1
                                    obtain rfl := Option.some.inj H
                                    go_wp2
                                    go_ret
                                    exact ⟨by first | rfl | (simp [errW_none, errW_some] <;> rfl) | (simp [*, errW_none, errW_some] <;> rfl), by repeat (first | (with_reducible first | exact HB.out | apply below_alloc | apply pw_below_drewN | apply below_drew1 | refine below_set ?_ GE162.out) | exact HB.out)⟩
                                  · replace c42 := Bool.eq_false_iff.mpr c42
                                    subst c42
                                    have H1 : (if a0_0 = 61 then (some 48) else (if t166 = x8_24 then (pomaderef01_value.j5 kj37 t166 t168 x8_24 x9_24 true) else (pomaderef01_value.j5 kj37 t166 t168 x8_24 x9_24 (t168 == x8_24)))) = some r := by rw [if_neg (show ¬ (false = true) by decide)] at H; exact H
                                    clear H
                                    have H := H1
                                    clear H1
                                    by_cases c43 : a0_0 = 61
                                    · rw [if_pos c43] at H
                                      have c43b0 : (a0_0 == 61) = true := beq_iff_eq.mpr c43
                                      have c43b1 : (a0_0 != 61) = false := bne_eq_false_iff_eq.mpr c43
                                      clear c43
                                      obtain rfl := Option.some.inj H
                                      have hcz44_0 : wc.cell? ⟨gb162, 0, none⟩ = some (.int .u8 a0_0) := (blk_cell BK162.out 0).trans rfl
                                      have hcz44_1 : wc.cell? ⟨gb162, 1, none⟩ = some (.slice (some ad165) l0_1.length c0_1) := (blk_cell BK162.out 1).trans rfl
                                      have hfz44_0 := blk_frozen BK162.out 0
                                      have hfz44_1 := blk_frozen BK162.out 1
                                      go_wp2
                                      go_ret
                                      exact ⟨by first | rfl | (simp [errW_none, errW_some] <;> rfl) | (simp [*, errW_none, errW_some] <;> rfl), by repeat (first | (with_reducible first | exact HB.out | apply below_alloc | apply pw_below_drewN | apply below_drew1 | refine below_set ?_ GE162.out) | exact HB.out)⟩
                                    · rw [if_neg c43] at H
                                      have c43b0 : (a0_0 == 61) = false := beq_eq_false_iff_ne.mpr c43
                                      have c43b1 : (a0_0 != 61) = true := bne_iff_ne.mpr c43
                                      have HC45 := Aside0.mk H
                                      clear H
                                      have hcz46_0 : wc.cell? ⟨gb162, 0, none⟩ = some (.int .u8 a0_0) := (blk_cell BK162.out 0).trans rfl
                                      have hcz46_1 : wc.cell? ⟨gb162, 1, none⟩ = some (.slice (some ad165) l0_1.length c0_1) := (blk_cell BK162.out 1).trans rfl
                                      have hfz46_0 := blk_frozen BK162.out 0
                                      have hfz46_1 := blk_frozen BK162.out 1
                                      go_upto_region 24 with (fail)
                                      go_cut [74] (fun v74 wc => ∃ (kq : Nat) (x74_44 : Bool), v74 = .bool x74_44 ∧ Aside0 (pomaderef01_value.j5 kq t166 t168 x8_24 x9_24 x74_44 = some r) ∧ Aside0 (kq ≤ kj37) ∧ Aside0 (wc.heap[gb162]? = some (.cells #[.int .u8 a0_0, (.slice (some ad165) l0_1.length c0_1)] 99 (0, 0))) ∧ Aside0 (Below w.heap.size w wc))
                                      case first =>
                                        have H := HC45.out
                                        clear HC45
                                        by_cases c47 : t166 = x8_24
                                        · rw [if_pos c47] at H
                                          have c47b0 : (t166 == x8_24) = true := beq_iff_eq.mpr c47
                                          have c47b1 : (t166 != x8_24) = false := bne_eq_false_iff_eq.mpr c47
                                          clear c47
                                          (first | rw [c47b0] | (simp only [i64_w, i32_w]; rw [c47b0]) | skip)
                                          have H' := Aside0.mk H
                                          clear H
                                          go_wp2
                                          go_meet
                                          case rel => exact ⟨_, (true), (by first | rfl | (simp; done) | (simp [*]; done)), H', ⟨by have := HJ2.out; have := HJ16.out; have := HJ24.out; have := HJ30.out; have := HJ37.out; first | omega | exact Nat.le_refl _⟩, ⟨by (with_reducible repeat (first | refine blk_drewN ?_ _ | refine blk_drew ?_ | refine blk_alloc ?_ _)); exact BK162.out⟩, ⟨by repeat (first | (with_reducible first | exact HB.out | apply below_alloc | apply pw_below_drewN | apply below_drew1 | refine below_set ?_ GE162.out) | exact HB.out)⟩⟩
                                        · rw [if_neg c47] at H
                                          have c47b0 : (t166 == x8_24) = false := beq_eq_false_iff_ne.mpr c47
                                          have c47b1 : (t166 != x8_24) = true := bne_iff_ne.mpr c47
                                          (first | rw [c47b0] | (simp only [i64_w, i32_w]; rw [c47b0]) | skip)
                                          have H' := Aside0.mk H
                                          clear H
                                          go_wp2
                                          go_meet
                                          case rel => exact ⟨_, ((t168 == x8_24)), (by first | rfl | (simp; done) | (simp [*]; done)), H', ⟨by have := HJ2.out; have := HJ16.out; have := HJ24.out; have := HJ30.out; have := HJ37.out; first | omega | exact Nat.le_refl _⟩, ⟨by (with_reducible repeat (first | refine blk_drewN ?_ _ | refine blk_drew ?_ | refine blk_alloc ?_ _)); exact BK162.out⟩, ⟨by repeat (first | (with_reducible first | exact HB.out | apply below_alloc | apply pw_below_drewN | apply below_drew1 | refine below_set ?_ GE162.out) | exact HB.out)⟩⟩
                                      case rest =>
                                        clear HC45
                                        try clear c1
                                        try clear p1
                                        try clear q1
                                        try clear hx1
                                        try clear qi1
                                        try clear c2
                                        try clear p2
                                        try clear c3
                                        try clear c4
                                        try clear c6
                                        try clear c6b0
                                        try clear c6b1
                                        try clear c7
                                        try clear c8
                                        try clear c9
                                        try clear c9b0
                                        try clear c9b1
                                        try clear c10
                                        try clear c10b0
                                        try clear c10b1
                                        try clear c12
                                        try clear c12b0
                                        try clear c12b1
                                        try clear c16
                                        try clear p16
                                        try clear q16
                                        try clear hx16
                                        try clear qi16
                                        try clear c18
                                        try clear c18b0
                                        try clear c18b1
                                        try clear c19
                                        try clear c19b0
                                        try clear c19b1
                                        try clear c20
                                        try clear c21
                                        try clear c21b0
                                        try clear c21b1
                                        try clear c23
                                        try clear c23b0
                                        try clear c23b1
                                        try clear c30
                                        try clear c30b0
                                        try clear c30b1
                                        try clear c32
                                        try clear c32b0
                                        try clear c32b1
                                        try clear c33
                                        try clear c33b0
                                        try clear c33b1
                                        try clear c37
                                        try clear c39
                                        try clear c39b0
                                        try clear c39b1
                                        try clear c42
                                        try clear c43
                                        try clear c43b0
                                        try clear c43b1
                                        try clear c47
                                        try clear c47b0
                                        try clear c47b1
                                        try clear hcz13_0
                                        try clear hcz13_1
                                        try clear hcz15_0
                                        try clear hcz15_1
                                        try clear hcz29_0
                                        try clear hcz29_1
                                        try clear hcz34_0
                                        try clear hcz34_1
                                        try clear hcz35_0
                                        try clear hcz35_1
                                        try clear hcz36_0
                                        try clear hcz36_1
                                        try clear hcz40_0
                                        try clear hcz40_1
                                        try clear hcz41_0
                                        try clear hcz41_1
                                        try clear hcz44_0
                                        try clear hcz44_1
                                        try clear hcz46_0
                                        try clear hcz46_1
                                        try clear hcz5_0
                                        try clear hcz5_1
                                        try clear hcz8_0
                                        try clear hcz8_1
                                        try clear hfz13_0
                                        try clear hfz13_1
                                        try clear hfz15_0
                                        try clear hfz15_1
                                        try clear hfz29_0
                                        try clear hfz29_1
                                        try clear hfz34_0
                                        try clear hfz34_1
                                        try clear hfz35_0
                                        try clear hfz35_1
                                        try clear hfz36_0
                                        try clear hfz36_1
                                        try clear hfz40_0
                                        try clear hfz40_1
                                        try clear hfz41_0
                                        try clear hfz41_1
                                        try clear hfz44_0
                                        try clear hfz44_1
                                        try clear hfz46_0
                                        try clear hfz46_1
                                        try clear hfz5_0
                                        try clear hfz5_1
                                        try clear hfz8_0
                                        try clear hfz8_1
                                        try clear hx163_0
                                        try clear hx163_1
                                        try clear hx165_0
                                        try clear hx165_1
                                        try clear hx167_0
                                        try clear hx167_1
                                        try clear p1
                                        try clear p16
                                        try clear p163
                                        try clear p165
                                        try clear p167
                                        try clear p2
                                        try clear q1
                                        try clear q16
                                        try clear q163
                                        try clear q165
                                        try clear q167
                                        obtain ⟨kq, x74_44, rfl, HA, HJ44, BK162, HB⟩ := hcut
                                        cases kq with
                                        | zero => exact absurd HA.out (by simp [pomaderef01_value.j5])
                                        | succ kj44 =>
                                          have H := HA.out
                                          clear HA
                                          simp only [pomaderef01_value.j5] at H
                                          by_cases c48 : x74_44 = true
                                          · subst c48
                                            have H1 : (some x8_24) = some r := by rw [if_pos rfl] at H; exact H
                                            clear H
                                            have H := H1
                                            clear H1
                                            obtain rfl := Option.some.inj H
                                            go_wp2
                                            go_ret
                                            exact ⟨by first | rfl | (simp [errW_none, errW_some] <;> rfl) | (simp [*, errW_none, errW_some] <;> rfl), by repeat (first | (with_reducible first | exact HB.out | apply below_alloc | apply pw_below_drewN | apply below_drew1 | refine below_set ?_ GE162.out) | exact HB.out)⟩
                                          · replace c48 := Bool.eq_false_iff.mpr c48
                                            subst c48
                                            have H1 : (if t166 = x9_24 then (if t168 = x9_24 then (some x9_24) else (some 63)) else (some 63)) = some r := by rw [if_neg (show ¬ (false = true) by decide)] at H; exact H
                                            clear H
                                            have H := H1
                                            clear H1
                                            by_cases c49 : t166 = x9_24
                                            · rw [if_pos c49] at H
                                              have c49b0 : (t166 == x9_24) = true := beq_iff_eq.mpr c49
                                              have c49b1 : (t166 != x9_24) = false := bne_eq_false_iff_eq.mpr c49
                                              clear c49
                                              by_cases c50 : t168 = x9_24
                                              · rw [if_pos c50] at H
                                                have c50b0 : (t168 == x9_24) = true := beq_iff_eq.mpr c50
                                                have c50b1 : (t168 != x9_24) = false := bne_eq_false_iff_eq.mpr c50
                                                clear c50
                                                obtain rfl := Option.some.inj H
                                                go_wp2
                                                go_ret
                                                exact ⟨by first | rfl | (simp [errW_none, errW_some] <;> rfl) | (simp [*, errW_none, errW_some] <;> rfl), by repeat (first | (with_reducible first | exact HB.out | apply below_alloc | apply pw_below_drewN | apply below_drew1 | refine below_set ?_ GE162.out) | exact HB.out)⟩
                                              · rw [if_neg c50] at H
                                                have c50b0 : (t168 == x9_24) = false := beq_eq_false_iff_ne.mpr c50
                                                have c50b1 : (t168 != x9_24) = true := bne_iff_ne.mpr c50
                                                obtain rfl := Option.some.inj H
                                                go_wp2
                                                go_ret
                                                exact ⟨by first | rfl | (simp [errW_none, errW_some] <;> rfl) | (simp [*, errW_none, errW_some] <;> rfl), by repeat (first | (with_reducible first | exact HB.out | apply below_alloc | apply pw_below_drewN | apply below_drew1 | refine below_set ?_ GE162.out) | exact HB.out)⟩
                                            · rw [if_neg c49] at H
                                              have c49b0 : (t166 == x9_24) = false := beq_eq_false_iff_ne.mpr c49
                                              have c49b1 : (t166 != x9_24) = true := bne_iff_ne.mpr c49
                                              obtain rfl := Option.some.inj H
                                              go_wp2
                                              go_ret
                                              exact ⟨by first | rfl | (simp [errW_none, errW_some] <;> rfl) | (simp [*, errW_none, errW_some] <;> rfl), by repeat (first | (with_reducible first | exact HB.out | apply below_alloc | apply pw_below_drewN | apply below_drew1 | refine below_set ?_ GE162.out) | exact HB.out)⟩
                  · rw [if_neg c23] at H
                    exact absurd H (by simp)
                · rw [if_neg c21] at H
                  exact absurd H (by simp)
              · replace c20 := Bool.eq_false_iff.mpr c20
                subst c20
                have H1 : (if 0 ≤ ((a0_0 - 97) % 256) then (if ((a0_0 - 97) % 256) < (a1.size : Int) then (some (bt a1 ((a0_0 - 97) % 256))) else (none)) else (none)) = some r := by rw [if_neg (show ¬ (false = true) by decide)] at H; exact H
                clear H
                have H := H1
                clear H1
                obtain ⟨ji51, hji51⟩ : ∃ j_ : Int, ((a0_0 - 97) % 256) = j_ := ⟨_, rfl⟩
                replace H : (if 0 ≤ (ji51) then (if (ji51) < (a1.size : Int) then (some (bt a1 (ji51))) else (none)) else (none)) = some r := by first | (rw [hji51] at H; exact H) | (simp only [hji51] at H ⊢; exact H)
                by_cases c52 : 0 ≤ (ji51)
                · rw [if_pos c52] at H
                  have c52b0 : decide (0 ≤ (ji51)) = true := decide_eq_true c52
                  clear c52
                  by_cases c53 : (ji51) < (a1.size : Int)
                  · rw [if_pos c53] at H
                    have c53b0 : decide ((ji51) < (a1.size : Int)) = true := decide_eq_true c53
                    clear c53
                    obtain rfl := Option.some.inj H
                    have hcz55_0 : wc.cell? ⟨gb162, 0, none⟩ = some (.int .u8 a0_0) := (blk_cell BK162.out 0).trans rfl
                    have hcz55_1 : wc.cell? ⟨gb162, 1, none⟩ = some (.slice A0_1 l0_1.length c0_1) := (blk_cell BK162.out 1).trans rfl
                    have hfz55_0 := blk_frozen BK162.out 0
                    have hfz55_1 := blk_frozen BK162.out 1
                    have p54 : 0 ≤ ((ji51) : Int) := of_decide_eq_true (by first | (with_reducible assumption) | assumption)
                    have q54 : (ji51) < (a1.size : Int) := of_decide_eq_true (by first | (with_reducible assumption) | assumption)
                    have hx54 := bt_at a1 (ji51)
                    replace p54 := eq_true p54
                    replace q54 := eq_true q54
                    go_wp2
                    go_ret
                    exact ⟨by first | rfl | (simp [errW_none, errW_some] <;> rfl) | (simp only [← hji51]; first | rfl | (simp [errW_none, errW_some] <;> rfl)) | (simp [*, errW_none, errW_some] <;> rfl), by repeat (first | (with_reducible first | exact HB.out | apply below_alloc | apply pw_below_drewN | apply below_drew1 | refine below_set ?_ GE162.out) | exact HB.out)⟩
                  · rw [if_neg c53] at H
                    exact absurd H (by simp)
                · rw [if_neg c52] at H
                  exact absurd H (by simp)
end Go.Proofs.YtijaefmaceolbaaGreatDoor.Im

namespace Go.Proofs.YtijaefmaceolbaaGreatDoor.Im
open Go.RowKit Go.Proofs.YtijaefmaceolbaaGreatDoorW.PrintWords Go.Proofs.YtijaefmaceolbaaGreatDoorW.PrintLast Go.Proofs.YtijaefmaceolbaaGreatDoorW.PrintMore
attribute [local go_sem] max2_int min2_int max_two min_two max_three min_three max_four min_four
set_option linter.unusedVariables false
set_option linter.unusedSimpArgs false
def pomaderef01_values.l0 : Nat → List (SNd) → ByteArray → List Int → Int → Option (ByteArray)
  | 0, _, _, _, _ => none
  | k + 1, x0, x1, x5, x6 => if x6 < (x0.length : Int) then (if 0 ≤ x6 then ((pomaderef01_value.f k ((rd_TNd x0 x6).f0) ((rd_TNd x0 x6).f1) x1).bind fun t173 => (if x6 < (x5.length : Int) then (pomaderef01_values.l0 k x0 x1 (x5.set (x6 : Int).toNat t173) (wrap64 (x6 + 1))) else (none))) else (none)) else (some (strOfNums x5))
def pomaderef01_values.f (k : Nat) (l0 : List (SNd)) (a1 : ByteArray) : Option (ByteArray) := if 0 ≤ (l0.length : Int) then (if ((l0.length : Int) : Int).toNat ≤ 281474976710656 then (pomaderef01_values.l0 k l0 a1 (List.replicate ((l0.length : Int) : Int).toNat 0) 0) else (none)) else (none)
theorem pomaderef01_values.mono_l : ∀ k, (∀ y0 y1 y2 y3, LeO (pomaderef01_values.l0 k y0 y1 y2 y3) (pomaderef01_values.l0 (k + 1) y0 y1 y2 y3))
  | 0 => fun _ _ _ _ r h => by simp [pomaderef01_values.l0] at h
  | k + 1 => by
    have ih0 := pomaderef01_values.mono_l k
    · intro y0 y1 y2 y3
      unfold pomaderef01_values.l0
      repeat' first
      | (with_reducible exact ih0 _ _ _ _)
      | (with_reducible exact pomaderef01_value.mono _ _ _ _)
      | (with_reducible exact LeO.refl _)
      | (with_reducible exact LeO.none _)
      | (with_reducible refine LeO.ite ?_ ?_)
      | (with_reducible refine LeO.bind ?_ (fun _ => ?_))
      | exact ih0 _ _ _ _
      | exact pomaderef01_value.mono _ _ _ _
      | exact LeO.none _
      | refine LeO.ite ?_ ?_
      | refine LeO.bind ?_ (fun _ => ?_)
theorem pomaderef01_values.mono : ∀ a0 a1 k, LeO (pomaderef01_values.f k a0 a1) (pomaderef01_values.f (k + 1) a0 a1) := by
  intro a0 a1 k
  have ih0 := pomaderef01_values.mono_l k
  unfold pomaderef01_values.f
  repeat' first
      | (with_reducible exact ih0 _ _ _ _)
      | (with_reducible exact pomaderef01_value.mono _ _ _ _)
      | (with_reducible exact LeO.refl _)
      | (with_reducible exact LeO.none _)
      | (with_reducible refine LeO.ite ?_ ?_)
      | (with_reducible refine LeO.bind ?_ (fun _ => ?_))
      | exact ih0 _ _ _ _
      | exact pomaderef01_value.mono _ _ _ _
      | exact LeO.none _
      | refine LeO.ite ?_ ?_
      | refine LeO.bind ?_ (fun _ => ?_)
set_option maxHeartbeats 8000000 in
set_option maxRecDepth 100000 in
theorem pomaderef01_values.calls (k : Nat) (A0 : Option Addr) (c0 : Nat) (l0 : List (SNd)) (a1 : ByteArray) (r : ByteArray) (w : World) (hr0 : Kd.C kNd w A0 l0.length l0) (hc0 : l0.length ≤ c0) (h : pomaderef01_values.f k l0 a1 = some r) :
    Calls Tryz.prog 66 #[.slice A0 l0.length c0, .string a1] w fun e w' => e = .returned (.string r) ∧ Below w.heap.size w w' := by
  have hu99 := Tryz.underlying99
  have HR0 := Aside0.mk hr0
  have HC0 := Aside0.mk hc0
  clear hr0 hc0
  have HB := Aside0.mk (Below.refl w.heap.size w)
  have H : (if 0 ≤ (l0.length : Int) then (if ((l0.length : Int) : Int).toNat ≤ 281474976710656 then (pomaderef01_values.l0 k l0 a1 (List.replicate ((l0.length : Int) : Int).toNat 0) 0) else (none)) else (none)) = some r := h
  clear h
  by_cases c3 : 0 ≤ (l0.length : Int)
  · rw [if_pos c3] at H
    have c3b0 := eq_true c3
    have c3b1 : decide (0 ≤ (l0.length : Int)) = true := decide_eq_true c3
    clear c3
    by_cases c4 : ((l0.length : Int) : Int).toNat ≤ 281474976710656
    · rw [if_pos c4] at H
      have c4b0 := eq_true c4
      have c4b1 : decide (((l0.length : Int) : Int).toNat ≤ 281474976710656) = true := decide_eq_true c4
      clear c4
      obtain ⟨y169, hy169⟩ : ∃ y_ : List Int, y_ = (List.replicate ((l0.length : Int) : Int).toNat 0) := ⟨_, rfl⟩
      replace H : (pomaderef01_values.l0 k l0 a1 y169 0) = some r := by first | (rw [hy169]; with_reducible exact H) | (have H2_ := (Option.bind_some _ _).symm.trans H; rw [hy169]; with_reducible exact H2_) | (have H2_ := (Option.bind_some _ _).symm.trans H; with_reducible exact H2_) | with_reducible exact H | (rw [hy169]; exact H) | exact H
      have Ny169 := Aside0.mk hy169
      clear hy169
      have H' := Aside0.mk H
      clear H
      go_enter Tryz.func66, Tryz.ntmps66
      go_wp2_with (first | ((with_reducible refine gate_dst (N := 9) rfl ?_); refine Kd.R_make (Kd.int .u8) _ 5 rfl (N := 9) rfl 87 _ _ rfl (l0.length : Int) rfl rfl Tryz.underlying87 (.int .u8 0) 1 info5 rfl (by decide) (by omega) 0 (ok := fun _ => True) (okp := fun _ => True) rfl (fun _ hk => hk) trivial (of_decide_eq_true (by first | (with_reducible assumption) | assumption)) (Nat.le_trans (Nat.mul_le_mul_right _ (of_decide_eq_true (by first | (with_reducible assumption) | assumption) : (l0.length : Int).toNat ≤ 281474976710656)) (by omega)) (Below.refl _ _) (Nat.le_refl _) ?_; intro v170 w5 ho6 hb hg_ hnew_; clear hg_ hnew_; (first | rw [← Ny169.out] at ho6 | (simp only [Int.reduceToNat] at ho6; rw [← Ny169.out] at ho6)); have n0_ := Aside0.mk (Kd.R_lower ho6 (below_size (by repeat (first | (with_reducible first | exact HB.out | apply below_alloc | apply pw_below_drewN | apply below_drew1) | exact HB.out)))); have n1_ := Aside0.mk (below_step (by repeat (first | (with_reducible first | exact HB.out | apply below_alloc | apply pw_below_drewN | apply below_drew1) | exact HB.out)) hb); clear HB; have HO171 := n0_; have HB := n1_; clear n0_ n1_; clear hb ho6))
      go_loopg [6] k (fun kq v6 w' => ∃ (x5_1 : List Int) (x6_1 : Int), v6 = .int .i64 x6_1 ∧ Aside0 (pomaderef01_values.l0 kq l0 a1 x5_1 x6_1 = some r) ∧ Aside0 (kq ≤ k) ∧ Aside0 (Kd.R (Kd.int .u8) 5 w' w.heap.size (fun _ => True) v170 x5_1) ∧ Aside0 (Below w.heap.size w w'))
      case atStart => exact ⟨(y169), (0), (by first | rfl | (simp; done) | (simp [*]; done)), H', ⟨Nat.le_refl _⟩, ⟨by (with_reducible repeat (first | apply Kd.R_alloc | apply Kd.R_drewN | apply Kd.R_drew)); exact HO171.out⟩, ⟨by repeat (first | (with_reducible first | exact HB.out | apply below_alloc | apply pw_below_drewN | apply below_drew1) | exact HB.out)⟩⟩
      case round =>
        clear H'
        try clear p2
        try clear c3
        try clear c3b0
        try clear c3b1
        try clear c4
        try clear c4b0
        try clear c4b1
        try clear c6
        obtain ⟨x5_1, x6_1, rfl, HA, HK1, HO_5, HB⟩ := hrel
        cases gk with
        | zero => exact absurd HA.out (by simp [pomaderef01_values.l0])
        | succ k1 =>
          have H := HA.out
          clear HA
          simp only [pomaderef01_values.l0] at H
          by_cases c7 : x6_1 < (l0.length : Int)
          · rw [if_pos c7] at H
            have c7b0 : decide (x6_1 < (l0.length : Int)) = true := decide_eq_true c7
            clear c7
            by_cases c8 : 0 ≤ x6_1
            · rw [if_pos c8] at H
              have c8b0 : decide (0 ≤ x6_1) = true := decide_eq_true c8
              clear c8
              replace H := Option.bind_eq_some_iff.mp H
              obtain ⟨t173, A90, H⟩ := H
              replace H : (if x6_1 < (x5_1.length : Int) then (pomaderef01_values.l0 k1 l0 a1 (x5_1.set (x6_1 : Int).toNat t173) (wrap64 (x6_1 + 1))) else (none)) = some r := H
              have A9 := Aside0.mk A90
              clear A90
              by_cases c10 : x6_1 < (x5_1.length : Int)
              · rw [if_pos c10] at H
                have c10b0 : decide (x6_1 < (x5_1.length : Int)) = true := decide_eq_true c10
                clear c10
                obtain ⟨y174, hy174⟩ : ∃ y_ : List Int, y_ = (x5_1.set (x6_1 : Int).toNat t173) := ⟨_, rfl⟩
                replace H : (pomaderef01_values.l0 k1 l0 a1 y174 (wrap64 (x6_1 + 1))) = some r := by first | (rw [hy174]; with_reducible exact H) | (have H2_ := (Option.bind_some _ _).symm.trans H; rw [hy174]; with_reducible exact H2_) | (have H2_ := (Option.bind_some _ _).symm.trans H; with_reducible exact H2_) | with_reducible exact H | (rw [hy174]; exact H) | exact H
                have Ny174 := Aside0.mk hy174
                clear hy174
                have H' := Aside0.mk H
                clear H
                have p172 : 0 ≤ (x6_1 : Int) := of_decide_eq_true (by first | (with_reducible assumption) | assumption)
                have q172 : x6_1 < (l0.length : Int) := of_decide_eq_true (by first | (with_reducible assumption) | assumption)
                obtain ⟨ad172, A172_1, c172_1, e172, hx172_0, hx172_1, hl172_1, hi172_1⟩ := at_TNd HR0.out x6_1 p172 q172
                cases e172
                replace hx172_0 := (HB.out.cell (World.block_lt_of_cell? w _ hx172_0)).trans hx172_0
                replace hx172_1 := (HB.out.cell (World.block_lt_of_cell? w _ hx172_1)).trans hx172_1
                have HR172_1 := Aside0.mk hi172_1
                have HC172_1 := Aside0.mk hl172_1
                clear hi172_1 hl172_1
                replace p172 := eq_true p172
                replace q172 := eq_true q172
                go_wp2_with (first | ((with_reducible refine gate_callee (f := 89) rfl ?_); refine goesL_ (some 23) rfl rfl Tryz.func89 (by kernel_rfl) rfl #[.agg #[.int .u8 ((rd_TNd l0 x6_1).f0), .slice A172_1 ((rd_TNd l0 x6_1).f1).length c172_1], .string a1] rfl (by (try simp only [List.map_toArray, List.map_cons, List.map_nil]); first | done | rfl | (simp only [List.length_drop, List.length_take]; rfl)) ?_; (with_reducible refine (pomaderef01_value.calls k1 ((rd_TNd l0 x6_1).f0) _ _ ((rd_TNd l0 x6_1).f1) a1 t173 _ ?side1 ?side2 A9.out).mono ?_); (case side1 => repeat (first | exact (Kd.C_below HR172_1.out HB.out) | (with_reducible refine Kd.C_alloc ?_ _) | (with_reducible refine Kd.C_drewN ?_ _) | (with_reducible refine Kd.C_drew ?_))); (case side2 => exact HC172_1.out); rintro e w12 ⟨rfl, hb⟩; refine ⟨_, rfl, ?_⟩; have n0_ := Aside0.mk (Kd.R_below (by (with_reducible repeat (first | apply Kd.R_alloc | apply Kd.R_drewN | apply Kd.R_drew)); exact HO_5.out) hb); have n1_ := Aside0.mk (below_step (by repeat (first | (with_reducible first | exact HB.out | apply below_alloc | apply pw_below_drewN | apply below_drew1) | exact HB.out)) hb); clear HO_5; clear HB; have HO_5 := n0_; have HB := n1_; clear n0_ n1_; (try clear hb); (try clear hb2); (try clear hk); (try clear hi); have p11 : 0 ≤ (x6_1 : Int) := of_decide_eq_true (by first | (with_reducible assumption) | assumption); have q11 : (x6_1 : Int) < ((x5_1.length : Int) : Int) := of_decide_eq_true (by first | (with_reducible assumption) | assumption); obtain ⟨go11, co11, eo11, gb11, gl11, cl11, HG11⟩ := Kd.R_form HO_5.out (by omega); (first | cases eo11 | (injection eo11 with ea_ en_ ec_; (first | subst ea_ | (injection ea_ with ea_; subst ea_)); subst ec_; clear en_)); have GB11 := Aside0.mk gb11; have GG11 := Aside0.mk HG11; clear gb11 gl11 HG11; obtain ⟨hx11_0, hf11_0⟩ := Kd.R_celln 0 HO_5.out (x6_1 : Int) p11 q11; replace p11 := eq_true p11; replace q11 := eq_true q11; obtain ⟨hy13_, hz13_⟩ := Kd.R_celln 0 HO_5.out (x6_1 : Int) (of_decide_eq_true (by first | (with_reducible assumption) | assumption)) (of_decide_eq_true (by first | (with_reducible assumption) | assumption)); have HP13 := Kd.R_putg HO_5.out (x6_1 : Int) t173) | ((with_reducible refine gate_store (t := 5) (p := 24) rfl ?_); refine store_event (t := 5) (p := 24) (v := ?vo_w14) (w1 := (w12.setCell ⟨go11, (x6_1 : Int).toNat, none⟩ (.int .u8 t173))) ?hg ?ho ?hn ?hr ?_; (case ho => rfl); (case hg => rfl); (case hn => rfl); (case hr => first | (go_simp; done) | (go_simp; rfl)); intro w14 hw; have hg : w12.grownBy w14 (some go11) := (by rw [hw]; exact HP13.2); have hp_ : Kd.R (Kd.int .u8) 5 w14 w.heap.size (fun _ => True) (.slice (some ⟨go11, 0, none⟩) x5_1.length co11) y174 := (by rw [hw, Ny174.out]; exact HP13.1); clear HP13; have n0_ := Aside0.mk (hp_); have n1_ := Aside0.mk ((by rw [hw]; exact below_set (HB.out) GB11.out : Below w.heap.size w w14)); clear HO_5; clear HB; have HO_5 := n0_; have HB := n1_; clear n0_ n1_; clear hg hw hp_))
                go_roundg k1
                case measure => have := HK1.out; omega
                case rel => exact ⟨(y174), (wrap64 (x6_1 + 1)), (by first | rfl | (simp; done) | (simp [*]; done)), H', ⟨by have := HK1.out; omega⟩, ⟨by (with_reducible repeat (first | apply Kd.R_alloc | apply Kd.R_drewN | apply Kd.R_drew)); exact HO_5.out⟩, ⟨by repeat (first | (with_reducible first | exact HB.out | apply below_alloc | apply pw_below_drewN | apply below_drew1) | exact HB.out)⟩⟩
              · rw [if_neg c10] at H
                exact absurd H (by simp)
            · rw [if_neg c8] at H
              exact absurd H (by simp)
          · rw [if_neg c7] at H
            have c7b0 : decide (x6_1 < (l0.length : Int)) = false := decide_eq_false c7
            clear c7
            obtain rfl := Option.some.inj H
            have hcv15 := own_string (P := Tryz.prog) Tryz.underlying87 Tryz.underlying5 Tryz.underlying9 (Kd.own_of_R HO_5.out)
            go_wp2
            go_ret
            exact ⟨by first | rfl | (simp [errW_none, errW_some] <;> rfl) | (simp [*, errW_none, errW_some] <;> rfl), by repeat (first | (with_reducible first | exact HB.out | apply below_alloc | apply pw_below_drewN | apply below_drew1) | exact HB.out)⟩
    · rw [if_neg c4] at H
      exact absurd H (by simp)
  · rw [if_neg c3] at H
    exact absurd H (by simp)
def pomaderef01_written.l0 : Nat → Int → Int → List Int → Int → Option (ByteArray)
  | 0, _, _, _, _ => none
  | k + 1, x0, x2, x7, x8 => if x8 ≥ 0 then (if x2 = 0 then (none) else (if 0 ≤ (Int.tmod x0 x2) then (if (Int.tmod x0 x2) < 3 then (if 0 ≤ x8 then (if x8 < (x7.length : Int) then (pomaderef01_written.l0 k (wrap64 (Int.tdiv x0 x2)) x2 (x7.set (x8 : Int).toNat (bt (⟨#[48, 49, 63]⟩ : ByteArray) (Int.tmod x0 x2))) (wrap64 (x8 - 1))) else (none)) else (none)) else (none)) else (none))) else (some (strOfNums x7))
def pomaderef01_written.f (k : Nat) (a0 : Int) (a1 : Int) (a2 : Int) : Option (ByteArray) := if 0 ≤ a1 then (if (a1 : Int).toNat ≤ 281474976710656 then (pomaderef01_written.l0 k a0 a2 (List.replicate (a1 : Int).toNat 0) (wrap64 (a1 - 1))) else (none)) else (none)
theorem pomaderef01_written.mono_l : ∀ k, (∀ y0 y1 y2 y3, LeO (pomaderef01_written.l0 k y0 y1 y2 y3) (pomaderef01_written.l0 (k + 1) y0 y1 y2 y3))
  | 0 => fun _ _ _ _ r h => by simp [pomaderef01_written.l0] at h
  | k + 1 => by
    have ih0 := pomaderef01_written.mono_l k
    · intro y0 y1 y2 y3
      unfold pomaderef01_written.l0
      repeat' first
      | (with_reducible exact ih0 _ _ _ _)
      | (with_reducible exact LeO.refl _)
      | (with_reducible exact LeO.none _)
      | (with_reducible refine LeO.ite ?_ ?_)
      | (with_reducible refine LeO.bind ?_ (fun _ => ?_))
      | exact ih0 _ _ _ _
      | exact LeO.none _
      | refine LeO.ite ?_ ?_
      | refine LeO.bind ?_ (fun _ => ?_)
theorem pomaderef01_written.mono : ∀ a0 a1 a2 k, LeO (pomaderef01_written.f k a0 a1 a2) (pomaderef01_written.f (k + 1) a0 a1 a2) := by
  intro a0 a1 a2 k
  have ih0 := pomaderef01_written.mono_l k
  unfold pomaderef01_written.f
  repeat' first
      | (with_reducible exact ih0 _ _ _ _)
      | (with_reducible exact LeO.refl _)
      | (with_reducible exact LeO.none _)
      | (with_reducible refine LeO.ite ?_ ?_)
      | (with_reducible refine LeO.bind ?_ (fun _ => ?_))
      | exact ih0 _ _ _ _
      | exact LeO.none _
      | refine LeO.ite ?_ ?_
      | refine LeO.bind ?_ (fun _ => ?_)
set_option maxHeartbeats 8000000 in
set_option maxRecDepth 100000 in
theorem pomaderef01_written.calls (k : Nat) (a0 : Int) (a1 : Int) (a2 : Int) (r : ByteArray) (w : World) (h : pomaderef01_written.f k a0 a1 a2 = some r) :
    Calls Tryz.prog 68 #[.int .i64 a0, .int .i64 a1, .int .i64 a2] w fun e w' => e = .returned (.string r) ∧ Below w.heap.size w w' := by
  have HB := Aside0.mk (Below.refl w.heap.size w)
  have H : (if 0 ≤ a1 then (if (a1 : Int).toNat ≤ 281474976710656 then (pomaderef01_written.l0 k a0 a2 (List.replicate (a1 : Int).toNat 0) (wrap64 (a1 - 1))) else (none)) else (none)) = some r := h
  clear h
  by_cases c4 : 0 ≤ a1
  · rw [if_pos c4] at H
    have c4b0 := eq_true c4
    have c4b1 : decide (0 ≤ a1) = true := decide_eq_true c4
    clear c4
    by_cases c5 : (a1 : Int).toNat ≤ 281474976710656
    · rw [if_pos c5] at H
      have c5b0 := eq_true c5
      have c5b1 : decide ((a1 : Int).toNat ≤ 281474976710656) = true := decide_eq_true c5
      clear c5
      obtain ⟨y176, hy176⟩ : ∃ y_ : List Int, y_ = (List.replicate (a1 : Int).toNat 0) := ⟨_, rfl⟩
      replace H : (pomaderef01_written.l0 k a0 a2 y176 (wrap64 (a1 - 1))) = some r := by first | (rw [hy176]; with_reducible exact H) | (have H2_ := (Option.bind_some _ _).symm.trans H; rw [hy176]; with_reducible exact H2_) | (have H2_ := (Option.bind_some _ _).symm.trans H; with_reducible exact H2_) | with_reducible exact H | (rw [hy176]; exact H) | exact H
      have Ny176 := Aside0.mk hy176
      clear hy176
      have H' := Aside0.mk H
      clear H
      go_enter Tryz.func68, Tryz.ntmps68
      go_wp2_with (first | ((with_reducible refine gate_dst (N := 10) rfl ?_); refine Kd.R_make (Kd.int .u8) _ 5 rfl (N := 10) rfl 87 _ _ rfl a1 rfl rfl Tryz.underlying87 (.int .u8 0) 1 info5 rfl (by decide) (by omega) 0 (ok := fun _ => True) (okp := fun _ => True) rfl (fun _ hk => hk) trivial (of_decide_eq_true (by first | (with_reducible assumption) | assumption)) (Nat.le_trans (Nat.mul_le_mul_right _ (of_decide_eq_true (by first | (with_reducible assumption) | assumption) : a1.toNat ≤ 281474976710656)) (by omega)) (Below.refl _ _) (Nat.le_refl _) ?_; intro v177 w6 ho7 hb hg_ hnew_; clear hg_ hnew_; (first | rw [← Ny176.out] at ho7 | (simp only [Int.reduceToNat] at ho7; rw [← Ny176.out] at ho7)); have n0_ := Aside0.mk (Kd.R_lower ho7 (below_size (by repeat (first | (with_reducible first | exact HB.out | apply below_alloc | apply pw_below_drewN | apply below_drew1) | exact HB.out)))); have n1_ := Aside0.mk (below_step (by repeat (first | (with_reducible first | exact HB.out | apply below_alloc | apply pw_below_drewN | apply below_drew1) | exact HB.out)) hb); clear HB; have HO178 := n0_; have HB := n1_; clear n0_ n1_; clear hb ho7))
      go_loopg [0, 8] k (fun kq v0 v8 w' => ∃ (x0_1 : Int) (x7_1 : List Int) (x8_1 : Int), v0 = .int .i64 x0_1 ∧ v8 = .int .i64 x8_1 ∧ Aside0 (pomaderef01_written.l0 kq x0_1 a2 x7_1 x8_1 = some r) ∧ Aside0 (kq ≤ k) ∧ Aside0 (Kd.R (Kd.int .u8) 5 w' w.heap.size (fun _ => True) v177 x7_1) ∧ Aside0 (Below w.heap.size w w'))
      case atStart => exact ⟨(a0), (y176), (wrap64 (a1 - 1)), (by first | rfl | (simp; done) | (simp [*]; done)), (by first | rfl | (simp; done) | (simp [*]; done)), H', ⟨Nat.le_refl _⟩, ⟨by (with_reducible repeat (first | apply Kd.R_alloc | apply Kd.R_drewN | apply Kd.R_drew)); exact HO178.out⟩, ⟨by repeat (first | (with_reducible first | exact HB.out | apply below_alloc | apply pw_below_drewN | apply below_drew1) | exact HB.out)⟩⟩
      case round =>
        clear H'
        try clear p2
        try clear c4
        try clear c4b0
        try clear c4b1
        try clear c5
        try clear c5b0
        try clear c5b1
        try clear c6
        try clear p6
        obtain ⟨x0_1, x7_1, x8_1, rfl, rfl, HA, HK1, HO_7, HB⟩ := hrel
        cases gk with
        | zero => exact absurd HA.out (by simp [pomaderef01_written.l0])
        | succ k1 =>
          have H := HA.out
          clear HA
          simp only [pomaderef01_written.l0] at H
          by_cases c8 : x8_1 ≥ 0
          · rw [if_pos c8] at H
            have c8b0 : decide (0 ≤ x8_1) = true := decide_eq_true c8
            clear c8
            by_cases c9 : a2 = 0
            · rw [if_pos c9] at H
              exact absurd H (by simp)
            · rw [if_neg c9] at H
              have c9b0 : (a2 == 0) = false := beq_eq_false_iff_ne.mpr c9
              have c9b1 : (a2 != 0) = true := bne_iff_ne.mpr c9
              obtain ⟨ji10, hji10⟩ : ∃ j_ : Int, (Int.tmod x0_1 a2) = j_ := ⟨_, rfl⟩
              replace H : (if 0 ≤ (ji10) then (if (ji10) < 3 then (if 0 ≤ x8_1 then (if x8_1 < (x7_1.length : Int) then (pomaderef01_written.l0 k1 (wrap64 (Int.tdiv x0_1 a2)) a2 (x7_1.set (x8_1 : Int).toNat (bt (⟨#[48, 49, 63]⟩ : ByteArray) (ji10))) (wrap64 (x8_1 - 1))) else (none)) else (none)) else (none)) else (none)) = some r := by first | (rw [hji10] at H; exact H) | (simp only [hji10] at H ⊢; exact H)
              by_cases c11 : 0 ≤ (ji10)
              · rw [if_pos c11] at H
                have c11b0 : decide (0 ≤ (ji10)) = true := decide_eq_true c11
                clear c11
                by_cases c12 : (ji10) < 3
                · rw [if_pos c12] at H
                  have c12b0 : decide ((ji10) < 3) = true := decide_eq_true c12
                  clear c12
                  by_cases c14 : 0 ≤ x8_1
                  · rw [if_pos c14] at H
                    have c14b0 : decide (0 ≤ x8_1) = true := decide_eq_true c14
                    clear c14
                    by_cases c15 : x8_1 < (x7_1.length : Int)
                    · rw [if_pos c15] at H
                      have c15b0 : decide (x8_1 < (x7_1.length : Int)) = true := decide_eq_true c15
                      clear c15
                      obtain ⟨y179, hy179⟩ : ∃ y_ : List Int, y_ = (x7_1.set (x8_1 : Int).toNat (bt (⟨#[48, 49, 63]⟩ : ByteArray) (ji10))) := ⟨_, rfl⟩
                      replace H : (pomaderef01_written.l0 k1 (wrap64 (Int.tdiv x0_1 a2)) a2 y179 (wrap64 (x8_1 - 1))) = some r := by first | (rw [hy179]; with_reducible exact H) | (have H2_ := (Option.bind_some _ _).symm.trans H; rw [hy179]; with_reducible exact H2_) | (have H2_ := (Option.bind_some _ _).symm.trans H; with_reducible exact H2_) | with_reducible exact H | (rw [hy179]; exact H) | exact H
                      have Ny179 := Aside0.mk hy179
                      clear hy179
                      have H' := Aside0.mk H
                      clear H
                      have p13 : 0 ≤ ((ji10) : Int) := of_decide_eq_true (by first | (with_reducible assumption) | assumption)
                      have q13 : (ji10) < (3 : Int) := of_decide_eq_true (by first | (with_reducible assumption) | assumption)
                      have hx13 := bt_at (⟨#[48, 49, 63]⟩ : ByteArray) (ji10)
                      replace p13 := eq_true p13
                      replace q13 := eq_true q13
                      have p16 : 0 ≤ (x8_1 : Int) := of_decide_eq_true (by first | (with_reducible assumption) | assumption)
                      have q16 : (x8_1 : Int) < ((x7_1.length : Int) : Int) := of_decide_eq_true (by first | (with_reducible assumption) | assumption)
                      obtain ⟨go16, co16, eo16, gb16, gl16, cl16, HG16⟩ := Kd.R_form HO_7.out (by omega)
                      (first | cases eo16 | (injection eo16 with ea_ en_ ec_; (first | subst ea_ | (injection ea_ with ea_; subst ea_)); subst ec_; clear en_))
                      have GB16 := Aside0.mk gb16
                      have GG16 := Aside0.mk HG16
                      clear gb16 gl16 HG16
                      obtain ⟨hx16_0, hf16_0⟩ := Kd.R_celln 0 HO_7.out (x8_1 : Int) p16 q16
                      replace p16 := eq_true p16
                      replace q16 := eq_true q16
                      have HP17 := Kd.R_putg HO_7.out (x8_1 : Int) (bt (⟨#[48, 49, 63]⟩ : ByteArray) (ji10))
                      go_wp2_with (first | ((with_reducible refine gate_store (t := 5) (p := 23) rfl ?_); refine store_event (t := 5) (p := 23) (v := ?vo_w18) (w1 := (wr.setCell ⟨go16, (x8_1 : Int).toNat, none⟩ (.int .u8 (bt (⟨#[48, 49, 63]⟩ : ByteArray) (ji10))))) ?hg ?ho ?hn ?hr ?_; (case ho => rfl); (case hg => rfl); (case hn => rfl); (case hr => first | (go_simp; done) | (go_simp; rfl)); intro w18 hw; have hg : wr.grownBy w18 (some go16) := (by rw [hw]; exact HP17.2); have hp_ : Kd.R (Kd.int .u8) 5 w18 w.heap.size (fun _ => True) (.slice (some ⟨go16, 0, none⟩) x7_1.length co16) y179 := (by rw [hw, Ny179.out]; exact HP17.1); clear HP17; have n0_ := Aside0.mk (hp_); have n1_ := Aside0.mk ((by rw [hw]; exact below_set (HB.out) GB16.out : Below w.heap.size w w18)); clear HO_7; clear HB; have HO_7 := n0_; have HB := n1_; clear n0_ n1_; clear hg hw hp_))
                      go_roundg k1
                      case measure => have := HK1.out; omega
                      case rel => exact ⟨(wrap64 (Int.tdiv x0_1 a2)), (y179), (wrap64 (x8_1 - 1)), (by first | rfl | (simp; done) | (simp [*]; done)), (by first | rfl | (simp; done) | (simp [*]; done)), H', ⟨by have := HK1.out; omega⟩, ⟨by (with_reducible repeat (first | apply Kd.R_alloc | apply Kd.R_drewN | apply Kd.R_drew)); exact HO_7.out⟩, ⟨by repeat (first | (with_reducible first | exact HB.out | apply below_alloc | apply pw_below_drewN | apply below_drew1) | exact HB.out)⟩⟩
                    · rw [if_neg c15] at H
                      exact absurd H (by simp)
                  · rw [if_neg c14] at H
                    exact absurd H (by simp)
                · rw [if_neg c12] at H
                  exact absurd H (by simp)
              · rw [if_neg c11] at H
                exact absurd H (by simp)
          · rw [if_neg c8] at H
            have c8b0 : decide (0 ≤ x8_1) = false := decide_eq_false c8
            clear c8
            obtain rfl := Option.some.inj H
            have hcv19 := own_string (P := Tryz.prog) Tryz.underlying87 Tryz.underlying5 Tryz.underlying9 (Kd.own_of_R HO_7.out)
            go_wp2
            go_ret
            exact ⟨by first | rfl | (simp [errW_none, errW_some] <;> rfl) | (simp [*, errW_none, errW_some] <;> rfl), by repeat (first | (with_reducible first | exact HB.out | apply below_alloc | apply pw_below_drewN | apply below_drew1) | exact HB.out)⟩
    · rw [if_neg c5] at H
      exact absurd H (by simp)
  · rw [if_neg c4] at H
    exact absurd H (by simp)
mutual
def pomaderef01_least.l0 : Nat → List (SNd) → ByteArray → Int → Option (ByteArray)
  | 0, _, _, _ => none
  | k + 1, x0, x3, x4 => if x4 < (x0.length : Int) then (if x3.size + 1 ≤ 9223372036854775807 then (pomaderef01_least.l0 k x0 (x3 ++ (⟨#[63]⟩ : ByteArray)) (wrap64 (x4 + 1))) else (none)) else (pomaderef01_least.l1 k x0 x3 0)
def pomaderef01_least.l1 : Nat → List (SNd) → ByteArray → Int → Option (ByteArray)
  | 0, _, _, _ => none
  | k + 1, x0, x3, x5 => if x5 < (x0.length : Int) then ((pomaderef01_values.f k x0 x3).bind fun t175 => (pomaderef01_least.l1 k x0 t175 (wrap64 (x5 + 1)))) else (some x3)
end
def pomaderef01_least.f (k : Nat) (l0 : List (SNd)) : Option (ByteArray) := pomaderef01_least.l0 k l0 (⟨#[]⟩ : ByteArray) 0
theorem pomaderef01_least.mono_l : ∀ k, (∀ y0 y1 y2, LeO (pomaderef01_least.l0 k y0 y1 y2) (pomaderef01_least.l0 (k + 1) y0 y1 y2)) ∧ (∀ y0 y1 y2, LeO (pomaderef01_least.l1 k y0 y1 y2) (pomaderef01_least.l1 (k + 1) y0 y1 y2))
  | 0 => ⟨fun _ _ _ r h => by simp [pomaderef01_least.l0] at h, fun _ _ _ r h => by simp [pomaderef01_least.l1] at h⟩
  | k + 1 => by
    obtain ⟨ih0, ih1⟩ := pomaderef01_least.mono_l k
    refine ⟨?_, ?_⟩
    · intro y0 y1 y2
      unfold pomaderef01_least.l0
      repeat' first
      | (with_reducible exact ih0 _ _ _)
      | (with_reducible exact ih1 _ _ _)
      | (with_reducible exact pomaderef01_values.mono _ _ _)
      | (with_reducible exact LeO.refl _)
      | (with_reducible exact LeO.none _)
      | (with_reducible refine LeO.ite ?_ ?_)
      | (with_reducible refine LeO.bind ?_ (fun _ => ?_))
      | exact ih0 _ _ _
      | exact ih1 _ _ _
      | exact pomaderef01_values.mono _ _ _
      | exact LeO.none _
      | refine LeO.ite ?_ ?_
      | refine LeO.bind ?_ (fun _ => ?_)
    · intro y0 y1 y2
      unfold pomaderef01_least.l1
      repeat' first
      | (with_reducible exact ih0 _ _ _)
      | (with_reducible exact ih1 _ _ _)
      | (with_reducible exact pomaderef01_values.mono _ _ _)
      | (with_reducible exact LeO.refl _)
      | (with_reducible exact LeO.none _)
      | (with_reducible refine LeO.ite ?_ ?_)
      | (with_reducible refine LeO.bind ?_ (fun _ => ?_))
      | exact ih0 _ _ _
      | exact ih1 _ _ _
      | exact pomaderef01_values.mono _ _ _
      | exact LeO.none _
      | refine LeO.ite ?_ ?_
      | refine LeO.bind ?_ (fun _ => ?_)
theorem pomaderef01_least.mono : ∀ a0 k, LeO (pomaderef01_least.f k a0) (pomaderef01_least.f (k + 1) a0) := by
  intro a0 k
  obtain ⟨ih0, ih1⟩ := pomaderef01_least.mono_l k
  unfold pomaderef01_least.f
  repeat' first
      | (with_reducible exact ih0 _ _ _)
      | (with_reducible exact ih1 _ _ _)
      | (with_reducible exact pomaderef01_values.mono _ _ _)
      | (with_reducible exact LeO.refl _)
      | (with_reducible exact LeO.none _)
      | (with_reducible refine LeO.ite ?_ ?_)
      | (with_reducible refine LeO.bind ?_ (fun _ => ?_))
      | exact ih0 _ _ _
      | exact ih1 _ _ _
      | exact pomaderef01_values.mono _ _ _
      | exact LeO.none _
      | refine LeO.ite ?_ ?_
      | refine LeO.bind ?_ (fun _ => ?_)
set_option maxHeartbeats 8000000 in
set_option maxRecDepth 100000 in
theorem pomaderef01_least.calls (k : Nat) (A0 : Option Addr) (c0 : Nat) (l0 : List (SNd)) (r : ByteArray) (w : World) (hr0 : Kd.C kNd w A0 l0.length l0) (hc0 : l0.length ≤ c0) (h : pomaderef01_least.f k l0 = some r) :
    Calls Tryz.prog 37 #[.slice A0 l0.length c0] w fun e w' => e = .returned (.string r) ∧ Below w.heap.size w w' := by
  have HR0 := Aside0.mk hr0
  have HC0 := Aside0.mk hc0
  clear hr0 hc0
  have HB := Aside0.mk (Below.refl w.heap.size w)
  have H : (pomaderef01_least.l0 k l0 (⟨#[]⟩ : ByteArray) 0) = some r := h
  clear h
  have H' := Aside0.mk H
  clear H
  go_enter Tryz.func37, Tryz.ntmps37
  go_wp2
  go_loopg [3, 4] k (fun kq v3 v4 w' => ∃ (x3_1 : ByteArray) (x4_1 : Int), v3 = .string x3_1 ∧ v4 = .int .i64 x4_1 ∧ Aside0 (pomaderef01_least.l0 kq l0 x3_1 x4_1 = some r) ∧ Aside0 (kq ≤ k) ∧ Aside0 (Below w.heap.size w w'))
  case atStart => exact ⟨((⟨#[]⟩ : ByteArray)), (0), (by first | rfl | (simp; done) | (simp [*]; done)), (by first | rfl | (simp; done) | (simp [*]; done)), H', ⟨Nat.le_refl _⟩, ⟨by repeat (first | (with_reducible first | exact HB.out | apply below_alloc | apply pw_below_drewN | apply below_drew1) | exact HB.out)⟩⟩
  case round =>
    clear H'
    obtain ⟨x3_1, x4_1, rfl, rfl, HA, HK1, HB⟩ := hrel
    cases gk with
    | zero => exact absurd HA.out (by simp [pomaderef01_least.l0])
    | succ k1 =>
      have H := HA.out
      clear HA
      simp only [pomaderef01_least.l0] at H
      by_cases c2 : x4_1 < (l0.length : Int)
      · rw [if_pos c2] at H
        have c2b0 : decide (x4_1 < (l0.length : Int)) = true := decide_eq_true c2
        clear c2
        by_cases c3 : x3_1.size + 1 ≤ 9223372036854775807
        · rw [if_pos c3] at H
          have c3b0 := eq_true c3
          have c3b1 : decide (x3_1.size + 1 ≤ 9223372036854775807) = true := decide_eq_true c3
          try have c3b2 : (9223372036854775807 < x3_1.size + 1) = False := eq_false (Nat.not_lt.2 c3)
          have H' := Aside0.mk H
          clear H
          go_wp2
          go_roundg k1
          case measure => have := HK1.out; omega
          case rel => exact ⟨(x3_1 ++ (⟨#[63]⟩ : ByteArray)), (wrap64 (x4_1 + 1)), (by first | rfl | (simp; done) | (simp [*]; done)), (by first | rfl | (simp; done) | (simp [*]; done)), H', ⟨by have := HK1.out; omega⟩, ⟨by repeat (first | (with_reducible first | exact HB.out | apply below_alloc | apply pw_below_drewN | apply below_drew1) | exact HB.out)⟩⟩
        · rw [if_neg c3] at H
          exact absurd H (by simp)
      · rw [if_neg c2] at H
        have c2b0 : decide (x4_1 < (l0.length : Int)) = false := decide_eq_false c2
        clear c2
        have H' := Aside0.mk H
        clear H
        go_wp2
        go_loopg [3, 5] k1 (fun kq v3 v5 w' => ∃ (x3_2 : ByteArray) (x5_2 : Int), v3 = .string x3_2 ∧ v5 = .int .i64 x5_2 ∧ Aside0 (pomaderef01_least.l1 kq l0 x3_2 x5_2 = some r) ∧ Aside0 (kq ≤ k1) ∧ Aside0 (Below w.heap.size w w'))
        case atStart => exact ⟨(x3_1), (0), (by first | rfl | (simp; done) | (simp [*]; done)), (by first | rfl | (simp; done) | (simp [*]; done)), H', ⟨Nat.le_refl _⟩, ⟨by repeat (first | (with_reducible first | exact HB.out | apply below_alloc | apply pw_below_drewN | apply below_drew1) | exact HB.out)⟩⟩
        case round =>
          clear H'
          try clear c2
          try clear c2b0
          try clear p2
          try clear c3
          try clear c3b0
          try clear c3b1
          try clear c3b2
          obtain ⟨x3_2, x5_2, rfl, rfl, HA, HK2, HB⟩ := hrel
          cases gk with
          | zero => exact absurd HA.out (by simp [pomaderef01_least.l1])
          | succ k2 =>
            have H := HA.out
            clear HA
            simp only [pomaderef01_least.l1] at H
            by_cases c4 : x5_2 < (l0.length : Int)
            · rw [if_pos c4] at H
              have c4b0 : decide (x5_2 < (l0.length : Int)) = true := decide_eq_true c4
              clear c4
              replace H := Option.bind_eq_some_iff.mp H
              obtain ⟨t175, A50, H⟩ := H
              replace H : (pomaderef01_least.l1 k2 l0 t175 (wrap64 (x5_2 + 1))) = some r := H
              have A5 := Aside0.mk A50
              clear A50
              have H' := Aside0.mk H
              clear H
              go_wp2_with (first | ((with_reducible refine gate_callee (f := 66) rfl ?_); refine goesL_ (some 22) rfl rfl Tryz.func66 (by kernel_rfl) rfl #[.slice A0 l0.length c0, .string x3_2] rfl (by (try simp only [List.map_toArray, List.map_cons, List.map_nil]); first | done | rfl | (simp only [List.length_drop, List.length_take]; rfl)) ?_; (with_reducible refine (pomaderef01_values.calls k2 _ _ l0 x3_2 t175 _ ?side1 ?side2 A5.out).mono ?_); (case side1 => repeat (first | exact (Kd.C_below HR0.out HB.out) | (with_reducible refine Kd.C_alloc ?_ _) | (with_reducible refine Kd.C_drewN ?_ _) | (with_reducible refine Kd.C_drew ?_))); (case side2 => exact HC0.out); rintro e w6 ⟨rfl, hb⟩; refine ⟨_, rfl, ?_⟩; have n0_ := Aside0.mk (below_step (by repeat (first | (with_reducible first | exact HB.out | apply below_alloc | apply pw_below_drewN | apply below_drew1) | exact HB.out)) hb); clear HB; have HB := n0_; clear n0_; (try clear hb); (try clear hb2); (try clear hk); (try clear hi)))
              go_roundg k2
              case measure => have := HK1.out; have := HK2.out; omega
              case rel => exact ⟨(t175), (wrap64 (x5_2 + 1)), (by first | rfl | (simp; done) | (simp [*]; done)), (by first | rfl | (simp; done) | (simp [*]; done)), H', ⟨by have := HK1.out; have := HK2.out; omega⟩, ⟨by repeat (first | (with_reducible first | exact HB.out | apply below_alloc | apply pw_below_drewN | apply below_drew1) | exact HB.out)⟩⟩
            · rw [if_neg c4] at H
              have c4b0 : decide (x5_2 < (l0.length : Int)) = false := decide_eq_false c4
              clear c4
              obtain rfl := Option.some.inj H
              go_wp2
              go_ret
              exact ⟨by first | rfl | (simp [errW_none, errW_some] <;> rfl) | (simp [*, errW_none, errW_some] <;> rfl), by repeat (first | (with_reducible first | exact HB.out | apply below_alloc | apply pw_below_drewN | apply below_drew1) | exact HB.out)⟩
def pomaderef01_power.l0 : Nat → Int → Int → Int → Int → Option (Int)
  | 0, _, _, _, _ => none
  | k + 1, x0, x1, x5, x6 => if x6 < x1 then (pomaderef01_power.l0 k x0 x1 (wrap64 (x5 * x0)) (wrap64 (x6 + 1))) else (some x5)
def pomaderef01_power.f (k : Nat) (a0 : Int) (a1 : Int) : Option (Int) := pomaderef01_power.l0 k a0 a1 1 0
theorem pomaderef01_power.mono_l : ∀ k, (∀ y0 y1 y2 y3, LeO (pomaderef01_power.l0 k y0 y1 y2 y3) (pomaderef01_power.l0 (k + 1) y0 y1 y2 y3))
  | 0 => fun _ _ _ _ r h => by simp [pomaderef01_power.l0] at h
  | k + 1 => by
    have ih0 := pomaderef01_power.mono_l k
    · intro y0 y1 y2 y3
      unfold pomaderef01_power.l0
      repeat' first
      | (with_reducible exact ih0 _ _ _ _)
      | (with_reducible exact LeO.refl _)
      | (with_reducible exact LeO.none _)
      | (with_reducible refine LeO.ite ?_ ?_)
      | (with_reducible refine LeO.bind ?_ (fun _ => ?_))
      | exact ih0 _ _ _ _
      | exact LeO.none _
      | refine LeO.ite ?_ ?_
      | refine LeO.bind ?_ (fun _ => ?_)
theorem pomaderef01_power.mono : ∀ a0 a1 k, LeO (pomaderef01_power.f k a0 a1) (pomaderef01_power.f (k + 1) a0 a1) := by
  intro a0 a1 k
  have ih0 := pomaderef01_power.mono_l k
  unfold pomaderef01_power.f
  repeat' first
      | (with_reducible exact ih0 _ _ _ _)
      | (with_reducible exact LeO.refl _)
      | (with_reducible exact LeO.none _)
      | (with_reducible refine LeO.ite ?_ ?_)
      | (with_reducible refine LeO.bind ?_ (fun _ => ?_))
      | exact ih0 _ _ _ _
      | exact LeO.none _
      | refine LeO.ite ?_ ?_
      | refine LeO.bind ?_ (fun _ => ?_)
set_option maxHeartbeats 8000000 in
set_option maxRecDepth 100000 in
theorem pomaderef01_power.calls (k : Nat) (a0 : Int) (a1 : Int) (r : Int) (w : World) (h : pomaderef01_power.f k a0 a1 = some r) :
    Calls Tryz.prog 67 #[.int .i64 a0, .int .i64 a1] w fun e w' => e = .returned (.int .i64 r) ∧ Drawn0 w w' := by
  have H : (pomaderef01_power.l0 k a0 a1 1 0) = some r := h
  clear h
  have H' := Aside0.mk H
  clear H
  go_enter Tryz.func67, Tryz.ntmps67
  go_wp2
  go_loopg [5, 6] k (fun kq v5 v6 w' => ∃ (x5_1 : Int) (x6_1 : Int), v5 = .int .i64 x5_1 ∧ v6 = .int .i64 x6_1 ∧ Aside0 (pomaderef01_power.l0 kq a0 a1 x5_1 x6_1 = some r) ∧ Aside0 (kq ≤ k) ∧ Drawn0 w w')
  case atStart => exact ⟨(1), (0), (by first | rfl | (simp; done) | (simp [*]; done)), (by first | rfl | (simp; done) | (simp [*]; done)), H', ⟨Nat.le_refl _⟩, by repeat (first | exact Drawn0.refl _ | apply Drawn0.step)⟩
  case round =>
    clear H'
    try clear p2
    obtain ⟨x5_1, x6_1, rfl, rfl, HA, HK1, ⟨m1, rfl⟩⟩ := hrel
    cases gk with
    | zero => exact absurd HA.out (by simp [pomaderef01_power.l0])
    | succ k1 =>
      have H := HA.out
      clear HA
      simp only [pomaderef01_power.l0] at H
      by_cases c3 : x6_1 < a1
      · rw [if_pos c3] at H
        have c3b0 : decide (x6_1 < a1) = true := decide_eq_true c3
        clear c3
        have H' := Aside0.mk H
        clear H
        go_wp2
        go_roundg k1
        case measure => have := HK1.out; omega
        case rel => exact ⟨(wrap64 (x5_1 * a0)), (wrap64 (x6_1 + 1)), (by first | rfl | (simp; done) | (simp [*]; done)), (by first | rfl | (simp; done) | (simp [*]; done)), H', ⟨by have := HK1.out; omega⟩, by repeat (first | exact Drawn0.refl _ | apply Drawn0.step)⟩
      · rw [if_neg c3] at H
        have c3b0 : decide (x6_1 < a1) = false := decide_eq_false c3
        clear c3
        obtain rfl := Option.some.inj H
        go_wp2
        go_ret
        exact ⟨by first | rfl | (simp; done) | (simp [*]; done), by repeat (first | exact Drawn0.refl _ | apply Drawn0.step)⟩
end Go.Proofs.YtijaefmaceolbaaGreatDoor.Im

namespace Go.Proofs.YtijaefmaceolbaaGreatDoor.Im
open Go.RowKit Go.Proofs.YtijaefmaceolbaaGreatDoorW.PrintWords Go.Proofs.YtijaefmaceolbaaGreatDoorW.PrintLast Go.Proofs.YtijaefmaceolbaaGreatDoorW.PrintMore
attribute [local go_sem] max2_int min2_int max_two min_two max_three min_three max_four min_four
set_option linter.unusedVariables false
set_option linter.unusedSimpArgs false
def pomaderef01_Partial.l0 : Nat → ByteArray → Int → Int → Option (Bool)
  | 0, _, _, _ => none
  | k + 1, x0, x1, x5 => if x5 < x1 then (if 0 ≤ x5 then (if x5 < (x0.size : Int) then (if (bt x0 x5) = 48 then (pomaderef01_Partial.l0 k x0 x1 (wrap64 (x5 + 1))) else (if (bt x0 x5) = 49 then (pomaderef01_Partial.l0 k x0 x1 (wrap64 (x5 + 1))) else (if (bt x0 x5) = 63 then (pomaderef01_Partial.l0 k x0 x1 (wrap64 (x5 + 1))) else (some false)))) else (none)) else (none)) else (some true)
def pomaderef01_Partial.f (k : Nat) (a0 : ByteArray) (a1 : Int) : Option (Bool) := if (a0.size : Int) = a1 then (pomaderef01_Partial.l0 k a0 a1 0) else (some false)
theorem pomaderef01_Partial.mono_l : ∀ k, (∀ y0 y1 y2, LeO (pomaderef01_Partial.l0 k y0 y1 y2) (pomaderef01_Partial.l0 (k + 1) y0 y1 y2))
  | 0 => fun _ _ _ r h => by simp [pomaderef01_Partial.l0] at h
  | k + 1 => by
    have ih0 := pomaderef01_Partial.mono_l k
    · intro y0 y1 y2
      unfold pomaderef01_Partial.l0
      repeat' first
      | (with_reducible exact ih0 _ _ _)
      | (with_reducible exact LeO.refl _)
      | (with_reducible exact LeO.none _)
      | (with_reducible refine LeO.ite ?_ ?_)
      | (with_reducible refine LeO.bind ?_ (fun _ => ?_))
      | exact ih0 _ _ _
      | exact LeO.none _
      | refine LeO.ite ?_ ?_
      | refine LeO.bind ?_ (fun _ => ?_)
theorem pomaderef01_Partial.mono : ∀ a0 a1 k, LeO (pomaderef01_Partial.f k a0 a1) (pomaderef01_Partial.f (k + 1) a0 a1) := by
  intro a0 a1 k
  have ih0 := pomaderef01_Partial.mono_l k
  unfold pomaderef01_Partial.f
  repeat' first
      | (with_reducible exact ih0 _ _ _)
      | (with_reducible exact LeO.refl _)
      | (with_reducible exact LeO.none _)
      | (with_reducible refine LeO.ite ?_ ?_)
      | (with_reducible refine LeO.bind ?_ (fun _ => ?_))
      | exact ih0 _ _ _
      | exact LeO.none _
      | refine LeO.ite ?_ ?_
      | refine LeO.bind ?_ (fun _ => ?_)
set_option maxHeartbeats 8000000 in
set_option maxRecDepth 100000 in
theorem pomaderef01_Partial.calls (k : Nat) (a0 : ByteArray) (a1 : Int) (r : Bool) (w : World) (h : pomaderef01_Partial.f k a0 a1 = some r) :
    Calls Tryz.prog 36 #[.string a0, .int .i64 a1] w fun e w' => e = .returned (.bool r) ∧ Drawn0 w w' := by
  have H : (if (a0.size : Int) = a1 then (pomaderef01_Partial.l0 k a0 a1 0) else (some false)) = some r := h
  clear h
  by_cases c3 : (a0.size : Int) = a1
  · rw [if_pos c3] at H
    have c3b0 : ((a0.size : Int) == a1) = true := beq_iff_eq.mpr c3
    have c3b1 : ((a0.size : Int) != a1) = false := bne_eq_false_iff_eq.mpr c3
    clear c3
    have H' := Aside0.mk H
    clear H
    go_enter Tryz.func36, Tryz.ntmps36
    go_wp2
    go_loopg [5] k (fun kq v5 w' => ∃ (x5_1 : Int), v5 = .int .i64 x5_1 ∧ Aside0 (pomaderef01_Partial.l0 kq a0 a1 x5_1 = some r) ∧ Aside0 (kq ≤ k) ∧ Drawn0 w w')
    case atStart => exact ⟨(0), (by first | rfl | (simp; done) | (simp [*]; done)), H', ⟨Nat.le_refl _⟩, by repeat (first | exact Drawn0.refl _ | apply Drawn0.step)⟩
    case round =>
      clear H'
      try clear p2
      try clear c3
      try clear c3b0
      try clear c3b1
      obtain ⟨x5_1, rfl, HA, HK1, ⟨m1, rfl⟩⟩ := hrel
      cases gk with
      | zero => exact absurd HA.out (by simp [pomaderef01_Partial.l0])
      | succ k1 =>
        have H := HA.out
        clear HA
        simp only [pomaderef01_Partial.l0] at H
        by_cases c4 : x5_1 < a1
        · rw [if_pos c4] at H
          have c4b0 : decide (x5_1 < a1) = true := decide_eq_true c4
          clear c4
          by_cases c5 : 0 ≤ x5_1
          · rw [if_pos c5] at H
            have c5b0 : decide (0 ≤ x5_1) = true := decide_eq_true c5
            clear c5
            by_cases c6 : x5_1 < (a0.size : Int)
            · rw [if_pos c6] at H
              have c6b0 : decide (x5_1 < (a0.size : Int)) = true := decide_eq_true c6
              clear c6
              by_cases c8 : (bt a0 x5_1) = 48
              · rw [if_pos c8] at H
                have c8b0 : ((bt a0 x5_1) == 48) = true := beq_iff_eq.mpr c8
                have c8b1 : ((bt a0 x5_1) != 48) = false := bne_eq_false_iff_eq.mpr c8
                clear c8
                have H' := Aside0.mk H
                clear H
                have p7 : 0 ≤ (x5_1 : Int) := of_decide_eq_true (by first | (with_reducible assumption) | assumption)
                have q7 : x5_1 < (a0.size : Int) := of_decide_eq_true (by first | (with_reducible assumption) | assumption)
                have hx7 := bt_at a0 x5_1
                replace p7 := eq_true p7
                replace q7 := eq_true q7
                go_wp2
                go_roundg k1
                case measure => have := HK1.out; omega
                case rel => exact ⟨(wrap64 (x5_1 + 1)), (by first | rfl | (simp; done) | (simp [*]; done)), H', ⟨by have := HK1.out; omega⟩, by repeat (first | exact Drawn0.refl _ | apply Drawn0.step)⟩
              · rw [if_neg c8] at H
                have c8b0 : ((bt a0 x5_1) == 48) = false := beq_eq_false_iff_ne.mpr c8
                have c8b1 : ((bt a0 x5_1) != 48) = true := bne_iff_ne.mpr c8
                by_cases c10 : (bt a0 x5_1) = 49
                · rw [if_pos c10] at H
                  have c10b0 : ((bt a0 x5_1) == 49) = true := beq_iff_eq.mpr c10
                  have c10b1 : ((bt a0 x5_1) != 49) = false := bne_eq_false_iff_eq.mpr c10
                  clear c10
                  have H' := Aside0.mk H
                  clear H
                  have p7 : 0 ≤ (x5_1 : Int) := of_decide_eq_true (by first | (with_reducible assumption) | assumption)
                  have q7 : x5_1 < (a0.size : Int) := of_decide_eq_true (by first | (with_reducible assumption) | assumption)
                  have hx7 := bt_at a0 x5_1
                  replace p7 := eq_true p7
                  replace q7 := eq_true q7
                  have p9 : 0 ≤ (x5_1 : Int) := of_decide_eq_true (by first | (with_reducible assumption) | assumption)
                  have q9 : x5_1 < (a0.size : Int) := of_decide_eq_true (by first | (with_reducible assumption) | assumption)
                  have hx9 := bt_at a0 x5_1
                  replace p9 := eq_true p9
                  replace q9 := eq_true q9
                  go_wp2
                  go_roundg k1
                  case measure => have := HK1.out; omega
                  case rel => exact ⟨(wrap64 (x5_1 + 1)), (by first | rfl | (simp; done) | (simp [*]; done)), H', ⟨by have := HK1.out; omega⟩, by repeat (first | exact Drawn0.refl _ | apply Drawn0.step)⟩
                · rw [if_neg c10] at H
                  have c10b0 : ((bt a0 x5_1) == 49) = false := beq_eq_false_iff_ne.mpr c10
                  have c10b1 : ((bt a0 x5_1) != 49) = true := bne_iff_ne.mpr c10
                  by_cases c12 : (bt a0 x5_1) = 63
                  · rw [if_pos c12] at H
                    have c12b0 : ((bt a0 x5_1) == 63) = true := beq_iff_eq.mpr c12
                    have c12b1 : ((bt a0 x5_1) != 63) = false := bne_eq_false_iff_eq.mpr c12
                    clear c12
                    have H' := Aside0.mk H
                    clear H
                    have p7 : 0 ≤ (x5_1 : Int) := of_decide_eq_true (by first | (with_reducible assumption) | assumption)
                    have q7 : x5_1 < (a0.size : Int) := of_decide_eq_true (by first | (with_reducible assumption) | assumption)
                    have hx7 := bt_at a0 x5_1
                    replace p7 := eq_true p7
                    replace q7 := eq_true q7
                    have p9 : 0 ≤ (x5_1 : Int) := of_decide_eq_true (by first | (with_reducible assumption) | assumption)
                    have q9 : x5_1 < (a0.size : Int) := of_decide_eq_true (by first | (with_reducible assumption) | assumption)
                    have hx9 := bt_at a0 x5_1
                    replace p9 := eq_true p9
                    replace q9 := eq_true q9
                    have p11 : 0 ≤ (x5_1 : Int) := of_decide_eq_true (by first | (with_reducible assumption) | assumption)
                    have q11 : x5_1 < (a0.size : Int) := of_decide_eq_true (by first | (with_reducible assumption) | assumption)
                    have hx11 := bt_at a0 x5_1
                    replace p11 := eq_true p11
                    replace q11 := eq_true q11
                    go_wp2
                    go_roundg k1
                    case measure => have := HK1.out; omega
                    case rel => exact ⟨(wrap64 (x5_1 + 1)), (by first | rfl | (simp; done) | (simp [*]; done)), H', ⟨by have := HK1.out; omega⟩, by repeat (first | exact Drawn0.refl _ | apply Drawn0.step)⟩
                  · rw [if_neg c12] at H
                    have c12b0 : ((bt a0 x5_1) == 63) = false := beq_eq_false_iff_ne.mpr c12
                    have c12b1 : ((bt a0 x5_1) != 63) = true := bne_iff_ne.mpr c12
                    obtain rfl := Option.some.inj H
                    have p7 : 0 ≤ (x5_1 : Int) := of_decide_eq_true (by first | (with_reducible assumption) | assumption)
                    have q7 : x5_1 < (a0.size : Int) := of_decide_eq_true (by first | (with_reducible assumption) | assumption)
                    have hx7 := bt_at a0 x5_1
                    replace p7 := eq_true p7
                    replace q7 := eq_true q7
                    have p9 : 0 ≤ (x5_1 : Int) := of_decide_eq_true (by first | (with_reducible assumption) | assumption)
                    have q9 : x5_1 < (a0.size : Int) := of_decide_eq_true (by first | (with_reducible assumption) | assumption)
                    have hx9 := bt_at a0 x5_1
                    replace p9 := eq_true p9
                    replace q9 := eq_true q9
                    have p11 : 0 ≤ (x5_1 : Int) := of_decide_eq_true (by first | (with_reducible assumption) | assumption)
                    have q11 : x5_1 < (a0.size : Int) := of_decide_eq_true (by first | (with_reducible assumption) | assumption)
                    have hx11 := bt_at a0 x5_1
                    replace p11 := eq_true p11
                    replace q11 := eq_true q11
                    go_wp2
                    go_ret
                    exact ⟨by first | rfl | (simp; done) | (simp [*]; done), by repeat (first | exact Drawn0.refl _ | apply Drawn0.step)⟩
            · rw [if_neg c6] at H
              exact absurd H (by simp)
          · rw [if_neg c5] at H
            exact absurd H (by simp)
        · rw [if_neg c4] at H
          have c4b0 : decide (x5_1 < a1) = false := decide_eq_false c4
          clear c4
          obtain rfl := Option.some.inj H
          go_wp2
          go_ret
          exact ⟨by first | rfl | (simp; done) | (simp [*]; done), by repeat (first | exact Drawn0.refl _ | apply Drawn0.step)⟩
  · rw [if_neg c3] at H
    have c3b0 : ((a0.size : Int) == a1) = false := beq_eq_false_iff_ne.mpr c3
    have c3b1 : ((a0.size : Int) != a1) = true := bne_iff_ne.mpr c3
    obtain rfl := Option.some.inj H
    go_enter Tryz.func36, Tryz.ntmps36
    go_wp2
    go_ret
    exact ⟨by first | rfl | (simp; done) | (simp [*]; done), by repeat (first | exact Drawn0.refl _ | apply Drawn0.step)⟩
def pomaderef01_Whole.l0 : Nat → ByteArray → Int → Int → Option (Bool)
  | 0, _, _, _ => none
  | k + 1, x0, x1, x5 => if x5 < x1 then (if 0 ≤ x5 then (if x5 < (x0.size : Int) then (if (bt x0 x5) = 63 then (some false) else (pomaderef01_Whole.l0 k x0 x1 (wrap64 (x5 + 1)))) else (none)) else (none)) else (some true)
def pomaderef01_Whole.f (k : Nat) (a0 : ByteArray) (a1 : Int) : Option (Bool) := (pomaderef01_Partial.f k a0 a1).bind fun t162 => (if t162 = true then (pomaderef01_Whole.l0 k a0 a1 0) else (some false))
theorem pomaderef01_Whole.mono_l : ∀ k, (∀ y0 y1 y2, LeO (pomaderef01_Whole.l0 k y0 y1 y2) (pomaderef01_Whole.l0 (k + 1) y0 y1 y2))
  | 0 => fun _ _ _ r h => by simp [pomaderef01_Whole.l0] at h
  | k + 1 => by
    have ih0 := pomaderef01_Whole.mono_l k
    · intro y0 y1 y2
      unfold pomaderef01_Whole.l0
      repeat' first
      | (with_reducible exact ih0 _ _ _)
      | (with_reducible exact pomaderef01_Partial.mono _ _ _)
      | (with_reducible exact LeO.refl _)
      | (with_reducible exact LeO.none _)
      | (with_reducible refine LeO.ite ?_ ?_)
      | (with_reducible refine LeO.bind ?_ (fun _ => ?_))
      | exact ih0 _ _ _
      | exact pomaderef01_Partial.mono _ _ _
      | exact LeO.none _
      | refine LeO.ite ?_ ?_
      | refine LeO.bind ?_ (fun _ => ?_)
theorem pomaderef01_Whole.mono : ∀ a0 a1 k, LeO (pomaderef01_Whole.f k a0 a1) (pomaderef01_Whole.f (k + 1) a0 a1) := by
  intro a0 a1 k
  have ih0 := pomaderef01_Whole.mono_l k
  unfold pomaderef01_Whole.f
  repeat' first
      | (with_reducible exact ih0 _ _ _)
      | (with_reducible exact pomaderef01_Partial.mono _ _ _)
      | (with_reducible exact LeO.refl _)
      | (with_reducible exact LeO.none _)
      | (with_reducible refine LeO.ite ?_ ?_)
      | (with_reducible refine LeO.bind ?_ (fun _ => ?_))
      | exact ih0 _ _ _
      | exact pomaderef01_Partial.mono _ _ _
      | exact LeO.none _
      | refine LeO.ite ?_ ?_
      | refine LeO.bind ?_ (fun _ => ?_)
set_option maxHeartbeats 8000000 in
set_option maxRecDepth 100000 in
theorem pomaderef01_Whole.calls (k : Nat) (a0 : ByteArray) (a1 : Int) (r : Bool) (w : World) (h : pomaderef01_Whole.f k a0 a1 = some r) :
    Calls Tryz.prog 16 #[.string a0, .int .i64 a1] w fun e w' => e = .returned (.bool r) ∧ Drawn0 w w' := by
  have H : ((pomaderef01_Partial.f k a0 a1).bind fun t162 => (if t162 = true then (pomaderef01_Whole.l0 k a0 a1 0) else (some false))) = some r := h
  clear h
  replace H := Option.bind_eq_some_iff.mp H
  obtain ⟨t162, A30, H⟩ := H
  replace H : (if t162 = true then (pomaderef01_Whole.l0 k a0 a1 0) else (some false)) = some r := H
  have A3 := Aside0.mk A30
  clear A30
  by_cases c4 : t162 = true
  · subst c4
    have H1 : (pomaderef01_Whole.l0 k a0 a1 0) = some r := by rw [if_pos rfl] at H; exact H
    clear H
    have H := H1
    clear H1
    have H' := Aside0.mk H
    clear H
    go_enter Tryz.func16, Tryz.ntmps16
    go_wp2_with (first | ((with_reducible refine gate_callee (f := 36) rfl ?_); refine goesL_ (some 8) rfl rfl Tryz.func36 (by kernel_rfl) rfl #[.string a0, .int .i64 a1] rfl (by (try simp only [List.map_toArray, List.map_cons, List.map_nil]); first | done | rfl | (simp only [List.length_drop, List.length_take]; rfl)) ?_; (with_reducible refine (pomaderef01_Partial.calls k a0 a1 true _ A3.out).mono ?_); rintro e w' ⟨rfl, ⟨nd, rfl⟩⟩; refine ⟨_, rfl, ?_⟩))
    go_loopg [5] k (fun kq v5 w' => ∃ (x5_1 : Int), v5 = .int .i64 x5_1 ∧ Aside0 (pomaderef01_Whole.l0 kq a0 a1 x5_1 = some r) ∧ Aside0 (kq ≤ k) ∧ Drawn0 w w')
    case atStart => exact ⟨(0), (by first | rfl | (simp; done) | (simp [*]; done)), H', ⟨Nat.le_refl _⟩, by repeat (first | exact Drawn0.refl _ | apply Drawn0.step)⟩
    case round =>
      clear H'
      try clear c1
      try clear p2
      try clear c3
      try clear c4
      obtain ⟨x5_1, rfl, HA, HK1, ⟨m1, rfl⟩⟩ := hrel
      cases gk with
      | zero => exact absurd HA.out (by simp [pomaderef01_Whole.l0])
      | succ k1 =>
        have H := HA.out
        clear HA
        simp only [pomaderef01_Whole.l0] at H
        by_cases c5 : x5_1 < a1
        · rw [if_pos c5] at H
          have c5b0 : decide (x5_1 < a1) = true := decide_eq_true c5
          clear c5
          by_cases c6 : 0 ≤ x5_1
          · rw [if_pos c6] at H
            have c6b0 : decide (0 ≤ x5_1) = true := decide_eq_true c6
            clear c6
            by_cases c7 : x5_1 < (a0.size : Int)
            · rw [if_pos c7] at H
              have c7b0 : decide (x5_1 < (a0.size : Int)) = true := decide_eq_true c7
              clear c7
              by_cases c9 : (bt a0 x5_1) = 63
              · rw [if_pos c9] at H
                have c9b0 : ((bt a0 x5_1) == 63) = true := beq_iff_eq.mpr c9
                have c9b1 : ((bt a0 x5_1) != 63) = false := bne_eq_false_iff_eq.mpr c9
                clear c9
                obtain rfl := Option.some.inj H
                have p8 : 0 ≤ (x5_1 : Int) := of_decide_eq_true (by first | (with_reducible assumption) | assumption)
                have q8 : x5_1 < (a0.size : Int) := of_decide_eq_true (by first | (with_reducible assumption) | assumption)
                have hx8 := bt_at a0 x5_1
                replace p8 := eq_true p8
                replace q8 := eq_true q8
                go_wp2
                go_ret
                exact ⟨by first | rfl | (simp; done) | (simp [*]; done), by repeat (first | exact Drawn0.refl _ | apply Drawn0.step)⟩
              · rw [if_neg c9] at H
                have c9b0 : ((bt a0 x5_1) == 63) = false := beq_eq_false_iff_ne.mpr c9
                have c9b1 : ((bt a0 x5_1) != 63) = true := bne_iff_ne.mpr c9
                have H' := Aside0.mk H
                clear H
                have p8 : 0 ≤ (x5_1 : Int) := of_decide_eq_true (by first | (with_reducible assumption) | assumption)
                have q8 : x5_1 < (a0.size : Int) := of_decide_eq_true (by first | (with_reducible assumption) | assumption)
                have hx8 := bt_at a0 x5_1
                replace p8 := eq_true p8
                replace q8 := eq_true q8
                go_wp2
                go_roundg k1
                case measure => have := HK1.out; omega
                case rel => exact ⟨(wrap64 (x5_1 + 1)), (by first | rfl | (simp; done) | (simp [*]; done)), H', ⟨by have := HK1.out; omega⟩, by repeat (first | exact Drawn0.refl _ | apply Drawn0.step)⟩
            · rw [if_neg c7] at H
              exact absurd H (by simp)
          · rw [if_neg c6] at H
            exact absurd H (by simp)
        · rw [if_neg c5] at H
          have c5b0 : decide (x5_1 < a1) = false := decide_eq_false c5
          clear c5
          obtain rfl := Option.some.inj H
          go_wp2
          go_ret
          exact ⟨by first | rfl | (simp; done) | (simp [*]; done), by repeat (first | exact Drawn0.refl _ | apply Drawn0.step)⟩
  · replace c4 := Bool.eq_false_iff.mpr c4
    subst c4
    have H1 : (some false) = some r := by rw [if_neg (show ¬ (false = true) by decide)] at H; exact H
    clear H
    have H := H1
    clear H1
    obtain rfl := Option.some.inj H
    go_enter Tryz.func16, Tryz.ntmps16
    go_wp2_with (first | ((with_reducible refine gate_callee (f := 36) rfl ?_); refine goesL_ (some 8) rfl rfl Tryz.func36 (by kernel_rfl) rfl #[.string a0, .int .i64 a1] rfl (by (try simp only [List.map_toArray, List.map_cons, List.map_nil]); first | done | rfl | (simp only [List.length_drop, List.length_take]; rfl)) ?_; (with_reducible refine (pomaderef01_Partial.calls k a0 a1 false _ A3.out).mono ?_); rintro e w' ⟨rfl, ⟨nd, rfl⟩⟩; refine ⟨_, rfl, ?_⟩))
    go_ret
    exact ⟨by first | rfl | (simp; done) | (simp [*]; done), by repeat (first | exact Drawn0.refl _ | apply Drawn0.step)⟩
def pomaderef01_Extends.l0 : Nat → ByteArray → ByteArray → Int → Option (Bool)
  | 0, _, _, _ => none
  | k + 1, x0, x1, x5 => if x5 < (x0.size : Int) then (if 0 ≤ x5 then (if x5 < (x1.size : Int) then (if (bt x1 x5) = 63 then (pomaderef01_Extends.l0 k x0 x1 (wrap64 (x5 + 1))) else (if (bt x0 x5) = (bt x1 x5) then (pomaderef01_Extends.l0 k x0 x1 (wrap64 (x5 + 1))) else (some false))) else (none)) else (none)) else (some true)
def pomaderef01_Extends.f (k : Nat) (a0 : ByteArray) (a1 : ByteArray) : Option (Bool) := if (a0.size : Int) = (a1.size : Int) then (pomaderef01_Extends.l0 k a0 a1 0) else (some false)
theorem pomaderef01_Extends.mono_l : ∀ k, (∀ y0 y1 y2, LeO (pomaderef01_Extends.l0 k y0 y1 y2) (pomaderef01_Extends.l0 (k + 1) y0 y1 y2))
  | 0 => fun _ _ _ r h => by simp [pomaderef01_Extends.l0] at h
  | k + 1 => by
    have ih0 := pomaderef01_Extends.mono_l k
    · intro y0 y1 y2
      unfold pomaderef01_Extends.l0
      repeat' first
      | (with_reducible exact ih0 _ _ _)
      | (with_reducible exact LeO.refl _)
      | (with_reducible exact LeO.none _)
      | (with_reducible refine LeO.ite ?_ ?_)
      | (with_reducible refine LeO.bind ?_ (fun _ => ?_))
      | exact ih0 _ _ _
      | exact LeO.none _
      | refine LeO.ite ?_ ?_
      | refine LeO.bind ?_ (fun _ => ?_)
theorem pomaderef01_Extends.mono : ∀ a0 a1 k, LeO (pomaderef01_Extends.f k a0 a1) (pomaderef01_Extends.f (k + 1) a0 a1) := by
  intro a0 a1 k
  have ih0 := pomaderef01_Extends.mono_l k
  unfold pomaderef01_Extends.f
  repeat' first
      | (with_reducible exact ih0 _ _ _)
      | (with_reducible exact LeO.refl _)
      | (with_reducible exact LeO.none _)
      | (with_reducible refine LeO.ite ?_ ?_)
      | (with_reducible refine LeO.bind ?_ (fun _ => ?_))
      | exact ih0 _ _ _
      | exact LeO.none _
      | refine LeO.ite ?_ ?_
      | refine LeO.bind ?_ (fun _ => ?_)
set_option maxHeartbeats 8000000 in
set_option maxRecDepth 100000 in
theorem pomaderef01_Extends.calls (k : Nat) (a0 : ByteArray) (a1 : ByteArray) (r : Bool) (w : World) (h : pomaderef01_Extends.f k a0 a1 = some r) :
    Calls Tryz.prog 12 #[.string a0, .string a1] w fun e w' => e = .returned (.bool r) ∧ Drawn0 w w' := by
  have H : (if (a0.size : Int) = (a1.size : Int) then (pomaderef01_Extends.l0 k a0 a1 0) else (some false)) = some r := h
  clear h
  by_cases c3 : (a0.size : Int) = (a1.size : Int)
  · rw [if_pos c3] at H
    have c3b0 : ((a0.size : Int) == (a1.size : Int)) = true := beq_iff_eq.mpr c3
    have c3b1 : ((a0.size : Int) != (a1.size : Int)) = false := bne_eq_false_iff_eq.mpr c3
    have c3b2 : (a0.size == a1.size) = true := by first | simpa using c3 | (simp at c3 ⊢; omega)
    clear c3
    have H' := Aside0.mk H
    clear H
    go_enter Tryz.func12, Tryz.ntmps12
    go_wp2
    repeat (go_quiet (fail); try go_wp2)
    go_loopg [5] k (fun kq v5 w' => ∃ (x5_1 : Int), v5 = .int .i64 x5_1 ∧ Aside0 (pomaderef01_Extends.l0 kq a0 a1 x5_1 = some r) ∧ Aside0 (kq ≤ k) ∧ Drawn0 w w')
    case atStart => exact ⟨(0), (by first | rfl | (simp; done) | (simp [*]; done)), H', ⟨Nat.le_refl _⟩, by repeat (first | exact Drawn0.refl _ | apply Drawn0.step)⟩
    case round =>
      clear H'
      try clear c1
      try clear p2
      try clear c3
      try clear c3b0
      try clear c3b1
      try clear c3b2
      obtain ⟨x5_1, rfl, HA, HK1, ⟨m1, rfl⟩⟩ := hrel
      cases gk with
      | zero => exact absurd HA.out (by simp [pomaderef01_Extends.l0])
      | succ k1 =>
        have H := HA.out
        clear HA
        simp only [pomaderef01_Extends.l0] at H
        by_cases c4 : x5_1 < (a0.size : Int)
        · rw [if_pos c4] at H
          have c4b0 : decide (x5_1 < (a0.size : Int)) = true := decide_eq_true c4
          clear c4
          by_cases c5 : 0 ≤ x5_1
          · rw [if_pos c5] at H
            have c5b0 : decide (0 ≤ x5_1) = true := decide_eq_true c5
            clear c5
            by_cases c6 : x5_1 < (a1.size : Int)
            · rw [if_pos c6] at H
              have c6b0 : decide (x5_1 < (a1.size : Int)) = true := decide_eq_true c6
              clear c6
              by_cases c8 : (bt a1 x5_1) = 63
              · rw [if_pos c8] at H
                have c8b0 : ((bt a1 x5_1) == 63) = true := beq_iff_eq.mpr c8
                have c8b1 : ((bt a1 x5_1) != 63) = false := bne_eq_false_iff_eq.mpr c8
                clear c8
                have H' := Aside0.mk H
                clear H
                have p7 : 0 ≤ (x5_1 : Int) := of_decide_eq_true (by first | (with_reducible assumption) | assumption)
                have q7 : x5_1 < (a1.size : Int) := of_decide_eq_true (by first | (with_reducible assumption) | assumption)
                have hx7 := bt_at a1 x5_1
                replace p7 := eq_true p7
                replace q7 := eq_true q7
                go_wp2
                repeat (go_quiet (fail); try go_wp2)
                go_roundg k1
                case measure => have := HK1.out; omega
                case rel => exact ⟨(wrap64 (x5_1 + 1)), (by first | rfl | (simp; done) | (simp [*]; done)), H', ⟨by have := HK1.out; omega⟩, by repeat (first | exact Drawn0.refl _ | apply Drawn0.step)⟩
              · rw [if_neg c8] at H
                have c8b0 : ((bt a1 x5_1) == 63) = false := beq_eq_false_iff_ne.mpr c8
                have c8b1 : ((bt a1 x5_1) != 63) = true := bne_iff_ne.mpr c8
                by_cases c11 : (bt a0 x5_1) = (bt a1 x5_1)
                · rw [if_pos c11] at H
                  have c11b0 : ((bt a0 x5_1) == (bt a1 x5_1)) = true := beq_iff_eq.mpr c11
                  have c11b1 : ((bt a0 x5_1) != (bt a1 x5_1)) = false := bne_eq_false_iff_eq.mpr c11
                  clear c11
                  have H' := Aside0.mk H
                  clear H
                  have p7 : 0 ≤ (x5_1 : Int) := of_decide_eq_true (by first | (with_reducible assumption) | assumption)
                  have q7 : x5_1 < (a1.size : Int) := of_decide_eq_true (by first | (with_reducible assumption) | assumption)
                  have hx7 := bt_at a1 x5_1
                  replace p7 := eq_true p7
                  replace q7 := eq_true q7
                  have p9 : 0 ≤ (x5_1 : Int) := of_decide_eq_true (by first | (with_reducible assumption) | assumption)
                  have q9 : x5_1 < (a0.size : Int) := of_decide_eq_true (by first | (with_reducible assumption) | assumption)
                  have hx9 := bt_at a0 x5_1
                  replace p9 := eq_true p9
                  replace q9 := eq_true q9
                  have p10 : 0 ≤ (x5_1 : Int) := of_decide_eq_true (by first | (with_reducible assumption) | assumption)
                  have q10 : x5_1 < (a1.size : Int) := of_decide_eq_true (by first | (with_reducible assumption) | assumption)
                  have hx10 := bt_at a1 x5_1
                  replace p10 := eq_true p10
                  replace q10 := eq_true q10
                  go_wp2
                  repeat (go_quiet (fail); try go_wp2)
                  go_roundg k1
                  case measure => have := HK1.out; omega
                  case rel => exact ⟨(wrap64 (x5_1 + 1)), (by first | rfl | (simp; done) | (simp [*]; done)), H', ⟨by have := HK1.out; omega⟩, by repeat (first | exact Drawn0.refl _ | apply Drawn0.step)⟩
                · rw [if_neg c11] at H
                  have c11b0 : ((bt a0 x5_1) == (bt a1 x5_1)) = false := beq_eq_false_iff_ne.mpr c11
                  have c11b1 : ((bt a0 x5_1) != (bt a1 x5_1)) = true := bne_iff_ne.mpr c11
                  obtain rfl := Option.some.inj H
                  have p7 : 0 ≤ (x5_1 : Int) := of_decide_eq_true (by first | (with_reducible assumption) | assumption)
                  have q7 : x5_1 < (a1.size : Int) := of_decide_eq_true (by first | (with_reducible assumption) | assumption)
                  have hx7 := bt_at a1 x5_1
                  replace p7 := eq_true p7
                  replace q7 := eq_true q7
                  have p9 : 0 ≤ (x5_1 : Int) := of_decide_eq_true (by first | (with_reducible assumption) | assumption)
                  have q9 : x5_1 < (a0.size : Int) := of_decide_eq_true (by first | (with_reducible assumption) | assumption)
                  have hx9 := bt_at a0 x5_1
                  replace p9 := eq_true p9
                  replace q9 := eq_true q9
                  have p10 : 0 ≤ (x5_1 : Int) := of_decide_eq_true (by first | (with_reducible assumption) | assumption)
                  have q10 : x5_1 < (a1.size : Int) := of_decide_eq_true (by first | (with_reducible assumption) | assumption)
                  have hx10 := bt_at a1 x5_1
                  replace p10 := eq_true p10
                  replace q10 := eq_true q10
                  go_wp2
                  repeat (go_quiet (fail); try go_wp2)
                  go_ret
                  exact ⟨by first | rfl | (simp; done) | (simp [*]; done), by repeat (first | exact Drawn0.refl _ | apply Drawn0.step)⟩
            · rw [if_neg c6] at H
              exact absurd H (by simp)
          · rw [if_neg c5] at H
            exact absurd H (by simp)
        · rw [if_neg c4] at H
          have c4b0 : decide (x5_1 < (a0.size : Int)) = false := decide_eq_false c4
          clear c4
          obtain rfl := Option.some.inj H
          go_wp2
          repeat (go_quiet (fail); try go_wp2)
          go_ret
          exact ⟨by first | rfl | (simp; done) | (simp [*]; done), by repeat (first | exact Drawn0.refl _ | apply Drawn0.step)⟩
  · rw [if_neg c3] at H
    have c3b0 : ((a0.size : Int) == (a1.size : Int)) = false := beq_eq_false_iff_ne.mpr c3
    have c3b1 : ((a0.size : Int) != (a1.size : Int)) = true := bne_iff_ne.mpr c3
    have c3b2 : (a0.size == a1.size) = false := by first | simpa using c3 | (simp at c3 ⊢; omega)
    obtain rfl := Option.some.inj H
    go_enter Tryz.func12, Tryz.ntmps12
    go_wp2
    repeat (go_quiet (fail); try go_wp2)
    go_ret
    exact ⟨by first | rfl | (simp; done) | (simp [*]; done), by repeat (first | exact Drawn0.refl _ | apply Drawn0.step)⟩
mutual
def pomaderef01_Compatible.l0 : Nat → ByteArray → ByteArray → Int → Option (Bool)
  | 0, _, _, _ => none
  | k + 1, x0, x1, x5 => if x5 < (x0.size : Int) then (pomaderef01_Compatible.j1 k x0 x1 x5 (decide (x5 < (x1.size : Int)))) else (pomaderef01_Compatible.j1 k x0 x1 x5 false)
def pomaderef01_Compatible.j1 : Nat → ByteArray → ByteArray → Int → Bool → Option (Bool)
  | 0, _, _, _, _ => none
  | k + 1, x0, x1, x5, x15 => if x15 = true then (if 0 ≤ x5 then (if x5 < (x0.size : Int) then (if x5 < (x1.size : Int) then (if (bt x0 x5) = (bt x1 x5) then (pomaderef01_Compatible.l0 k x0 x1 (wrap64 (x5 + 1))) else (if (bt x0 x5) = 63 then (pomaderef01_Compatible.l0 k x0 x1 (wrap64 (x5 + 1))) else (if (bt x1 x5) = 63 then (pomaderef01_Compatible.l0 k x0 x1 (wrap64 (x5 + 1))) else (some false)))) else (none)) else (none)) else (none)) else (some true)
end
def pomaderef01_Compatible.f (k : Nat) (a0 : ByteArray) (a1 : ByteArray) : Option (Bool) := pomaderef01_Compatible.l0 k a0 a1 0
theorem pomaderef01_Compatible.mono_l : ∀ k, (∀ y0 y1 y2, LeO (pomaderef01_Compatible.l0 k y0 y1 y2) (pomaderef01_Compatible.l0 (k + 1) y0 y1 y2)) ∧ (∀ y0 y1 y2 y3, LeO (pomaderef01_Compatible.j1 k y0 y1 y2 y3) (pomaderef01_Compatible.j1 (k + 1) y0 y1 y2 y3))
  | 0 => ⟨fun _ _ _ r h => by simp [pomaderef01_Compatible.l0] at h, fun _ _ _ _ r h => by simp [pomaderef01_Compatible.j1] at h⟩
  | k + 1 => by
    obtain ⟨ih0, ih1⟩ := pomaderef01_Compatible.mono_l k
    refine ⟨?_, ?_⟩
    · intro y0 y1 y2
      unfold pomaderef01_Compatible.l0
      repeat' first
      | (with_reducible exact ih0 _ _ _)
      | (with_reducible exact ih1 _ _ _ _)
      | (with_reducible exact LeO.refl _)
      | (with_reducible exact LeO.none _)
      | (with_reducible refine LeO.ite ?_ ?_)
      | (with_reducible refine LeO.bind ?_ (fun _ => ?_))
      | exact ih0 _ _ _
      | exact ih1 _ _ _ _
      | exact LeO.none _
      | refine LeO.ite ?_ ?_
      | refine LeO.bind ?_ (fun _ => ?_)
    · intro y0 y1 y2 y3
      unfold pomaderef01_Compatible.j1
      repeat' first
      | (with_reducible exact ih0 _ _ _)
      | (with_reducible exact ih1 _ _ _ _)
      | (with_reducible exact LeO.refl _)
      | (with_reducible exact LeO.none _)
      | (with_reducible refine LeO.ite ?_ ?_)
      | (with_reducible refine LeO.bind ?_ (fun _ => ?_))
      | exact ih0 _ _ _
      | exact ih1 _ _ _ _
      | exact LeO.none _
      | refine LeO.ite ?_ ?_
      | refine LeO.bind ?_ (fun _ => ?_)
theorem pomaderef01_Compatible.mono : ∀ a0 a1 k, LeO (pomaderef01_Compatible.f k a0 a1) (pomaderef01_Compatible.f (k + 1) a0 a1) := by
  intro a0 a1 k
  obtain ⟨ih0, ih1⟩ := pomaderef01_Compatible.mono_l k
  unfold pomaderef01_Compatible.f
  repeat' first
      | (with_reducible exact ih0 _ _ _)
      | (with_reducible exact ih1 _ _ _ _)
      | (with_reducible exact LeO.refl _)
      | (with_reducible exact LeO.none _)
      | (with_reducible refine LeO.ite ?_ ?_)
      | (with_reducible refine LeO.bind ?_ (fun _ => ?_))
      | exact ih0 _ _ _
      | exact ih1 _ _ _ _
      | exact LeO.none _
      | refine LeO.ite ?_ ?_
      | refine LeO.bind ?_ (fun _ => ?_)
set_option maxHeartbeats 8000000 in
set_option maxRecDepth 100000 in
theorem pomaderef01_Compatible.calls (k : Nat) (a0 : ByteArray) (a1 : ByteArray) (r : Bool) (w : World) (h : pomaderef01_Compatible.f k a0 a1 = some r) :
    Calls Tryz.prog 22 #[.string a0, .string a1] w fun e w' => e = .returned (.bool r) ∧ Drawn0 w w' := by
  have H : (pomaderef01_Compatible.l0 k a0 a1 0) = some r := h
  clear h
  have H' := Aside0.mk H
  clear H
  go_enter Tryz.func22, Tryz.ntmps22
  go_wp2
  repeat (go_quiet (fail); try go_wp2)
  go_loopg [5] k (fun kq v5 w' => ∃ (x5_1 : Int), v5 = .int .i64 x5_1 ∧ Aside0 (pomaderef01_Compatible.l0 kq a0 a1 x5_1 = some r) ∧ Aside0 (kq ≤ k) ∧ Drawn0 w w')
  case atStart => exact ⟨(0), (by first | rfl | (simp; done) | (simp [*]; done)), H', ⟨Nat.le_refl _⟩, by repeat (first | exact Drawn0.refl _ | apply Drawn0.step)⟩
  case round =>
    clear H'
    try clear c2
    try clear p2
    obtain ⟨x5_1, rfl, HA, HK1, ⟨m1, rfl⟩⟩ := hrel
    cases gk with
    | zero => exact absurd HA.out (by simp [pomaderef01_Compatible.l0])
    | succ k1 =>
      have H := HA.out
      clear HA
      simp only [pomaderef01_Compatible.l0] at H
      have HC3 := Aside0.mk H
      clear H
      go_upto_region 2 with (fail)
      repeat (go_quiet (fail); go_upto_region 2 with (fail))
      go_cut [15] (fun v15 wc => ∃ (kq : Nat) (x15_2 : Bool), v15 = .bool x15_2 ∧ Aside0 (pomaderef01_Compatible.j1 kq a0 a1 x5_1 x15_2 = some r) ∧ Aside0 (kq ≤ k1) ∧ Drawn0 w wc)
      case first =>
        have H := HC3.out
        clear HC3
        by_cases c4 : x5_1 < (a0.size : Int)
        · rw [if_pos c4] at H
          have c4b0 : decide (x5_1 < (a0.size : Int)) = true := decide_eq_true c4
          clear c4
          (first | rw [c4b0] | (simp only [i64_w, i32_w]; rw [c4b0]) | skip)
          have H' := Aside0.mk H
          clear H
          go_wp2
          repeat (go_quiet (fail); try go_wp2)
          go_meet
          case rel => exact ⟨_, (decide (x5_1 < (a1.size : Int))), (by first | rfl | (simp; done) | (simp [*]; done)), H', ⟨by have := HK1.out; first | omega | exact Nat.le_refl _⟩, by repeat (first | exact Drawn0.refl _ | apply Drawn0.step)⟩
        · rw [if_neg c4] at H
          have c4b0 : decide (x5_1 < (a0.size : Int)) = false := decide_eq_false c4
          clear c4
          (first | rw [c4b0] | (simp only [i64_w, i32_w]; rw [c4b0]) | skip)
          have H' := Aside0.mk H
          clear H
          go_wp2
          repeat (go_quiet (fail); try go_wp2)
          go_meet
          case rel => exact ⟨_, (false), (by first | rfl | (simp; done) | (simp [*]; done)), H', ⟨by have := HK1.out; first | omega | exact Nat.le_refl _⟩, by repeat (first | exact Drawn0.refl _ | apply Drawn0.step)⟩
      case rest =>
        clear HC3
        try clear c2
        try clear p2
        try clear c4
        try clear c4b0
        try clear p2
        obtain ⟨kq, x15_2, rfl, HA, HJ2, ⟨mc2, rfl⟩⟩ := hcut
        cases kq with
        | zero => exact absurd HA.out (by simp [pomaderef01_Compatible.j1])
        | succ kj2 =>
          have H := HA.out
          clear HA
          simp only [pomaderef01_Compatible.j1] at H
          by_cases c5 : x15_2 = true
          · subst c5
            have H1 : (if 0 ≤ x5_1 then (if x5_1 < (a0.size : Int) then (if x5_1 < (a1.size : Int) then (if (bt a0 x5_1) = (bt a1 x5_1) then (pomaderef01_Compatible.l0 kj2 a0 a1 (wrap64 (x5_1 + 1))) else (if (bt a0 x5_1) = 63 then (pomaderef01_Compatible.l0 kj2 a0 a1 (wrap64 (x5_1 + 1))) else (if (bt a1 x5_1) = 63 then (pomaderef01_Compatible.l0 kj2 a0 a1 (wrap64 (x5_1 + 1))) else (some false)))) else (none)) else (none)) else (none)) = some r := by rw [if_pos rfl] at H; exact H
            clear H
            have H := H1
            clear H1
            by_cases c6 : 0 ≤ x5_1
            · rw [if_pos c6] at H
              have c6b0 : decide (0 ≤ x5_1) = true := decide_eq_true c6
              clear c6
              by_cases c7 : x5_1 < (a0.size : Int)
              · rw [if_pos c7] at H
                have c7b0 : decide (x5_1 < (a0.size : Int)) = true := decide_eq_true c7
                clear c7
                by_cases c9 : x5_1 < (a1.size : Int)
                · rw [if_pos c9] at H
                  have c9b0 : decide (x5_1 < (a1.size : Int)) = true := decide_eq_true c9
                  clear c9
                  by_cases c11 : (bt a0 x5_1) = (bt a1 x5_1)
                  · rw [if_pos c11] at H
                    have c11b0 : ((bt a0 x5_1) == (bt a1 x5_1)) = true := beq_iff_eq.mpr c11
                    have c11b1 : ((bt a0 x5_1) != (bt a1 x5_1)) = false := bne_eq_false_iff_eq.mpr c11
                    clear c11
                    have H' := Aside0.mk H
                    clear H
                    have p8 : 0 ≤ (x5_1 : Int) := of_decide_eq_true (by first | (with_reducible assumption) | assumption)
                    have q8 : x5_1 < (a0.size : Int) := of_decide_eq_true (by first | (with_reducible assumption) | assumption)
                    have hx8 := bt_at a0 x5_1
                    replace p8 := eq_true p8
                    replace q8 := eq_true q8
                    have p10 : 0 ≤ (x5_1 : Int) := of_decide_eq_true (by first | (with_reducible assumption) | assumption)
                    have q10 : x5_1 < (a1.size : Int) := of_decide_eq_true (by first | (with_reducible assumption) | assumption)
                    have hx10 := bt_at a1 x5_1
                    replace p10 := eq_true p10
                    replace q10 := eq_true q10
                    go_wp2
                    repeat (go_quiet (fail); try go_wp2)
                    go_roundg kj2
                    case measure => have := HK1.out; have := HJ2.out; omega
                    case rel => exact ⟨(wrap64 (x5_1 + 1)), (by first | rfl | (simp; done) | (simp [*]; done)), H', ⟨by have := HK1.out; have := HJ2.out; omega⟩, by repeat (first | exact Drawn0.refl _ | apply Drawn0.step)⟩
                  · rw [if_neg c11] at H
                    have c11b0 : ((bt a0 x5_1) == (bt a1 x5_1)) = false := beq_eq_false_iff_ne.mpr c11
                    have c11b1 : ((bt a0 x5_1) != (bt a1 x5_1)) = true := bne_iff_ne.mpr c11
                    by_cases c13 : (bt a0 x5_1) = 63
                    · rw [if_pos c13] at H
                      have c13b0 : ((bt a0 x5_1) == 63) = true := beq_iff_eq.mpr c13
                      have c13b1 : ((bt a0 x5_1) != 63) = false := bne_eq_false_iff_eq.mpr c13
                      clear c13
                      have H' := Aside0.mk H
                      clear H
                      have p8 : 0 ≤ (x5_1 : Int) := of_decide_eq_true (by first | (with_reducible assumption) | assumption)
                      have q8 : x5_1 < (a0.size : Int) := of_decide_eq_true (by first | (with_reducible assumption) | assumption)
                      have hx8 := bt_at a0 x5_1
                      replace p8 := eq_true p8
                      replace q8 := eq_true q8
                      have p10 : 0 ≤ (x5_1 : Int) := of_decide_eq_true (by first | (with_reducible assumption) | assumption)
                      have q10 : x5_1 < (a1.size : Int) := of_decide_eq_true (by first | (with_reducible assumption) | assumption)
                      have hx10 := bt_at a1 x5_1
                      replace p10 := eq_true p10
                      replace q10 := eq_true q10
                      have p12 : 0 ≤ (x5_1 : Int) := of_decide_eq_true (by first | (with_reducible assumption) | assumption)
                      have q12 : x5_1 < (a0.size : Int) := of_decide_eq_true (by first | (with_reducible assumption) | assumption)
                      have hx12 := bt_at a0 x5_1
                      replace p12 := eq_true p12
                      replace q12 := eq_true q12
                      go_wp2
                      repeat (go_quiet (fail); try go_wp2)
                      go_roundg kj2
                      case measure => have := HK1.out; have := HJ2.out; omega
                      case rel => exact ⟨(wrap64 (x5_1 + 1)), (by first | rfl | (simp; done) | (simp [*]; done)), H', ⟨by have := HK1.out; have := HJ2.out; omega⟩, by repeat (first | exact Drawn0.refl _ | apply Drawn0.step)⟩
                    · rw [if_neg c13] at H
                      have c13b0 : ((bt a0 x5_1) == 63) = false := beq_eq_false_iff_ne.mpr c13
                      have c13b1 : ((bt a0 x5_1) != 63) = true := bne_iff_ne.mpr c13
                      by_cases c15 : (bt a1 x5_1) = 63
                      · rw [if_pos c15] at H
                        have c15b0 : ((bt a1 x5_1) == 63) = true := beq_iff_eq.mpr c15
                        have c15b1 : ((bt a1 x5_1) != 63) = false := bne_eq_false_iff_eq.mpr c15
                        clear c15
                        have H' := Aside0.mk H
                        clear H
                        have p8 : 0 ≤ (x5_1 : Int) := of_decide_eq_true (by first | (with_reducible assumption) | assumption)
                        have q8 : x5_1 < (a0.size : Int) := of_decide_eq_true (by first | (with_reducible assumption) | assumption)
                        have hx8 := bt_at a0 x5_1
                        replace p8 := eq_true p8
                        replace q8 := eq_true q8
                        have p10 : 0 ≤ (x5_1 : Int) := of_decide_eq_true (by first | (with_reducible assumption) | assumption)
                        have q10 : x5_1 < (a1.size : Int) := of_decide_eq_true (by first | (with_reducible assumption) | assumption)
                        have hx10 := bt_at a1 x5_1
                        replace p10 := eq_true p10
                        replace q10 := eq_true q10
                        have p12 : 0 ≤ (x5_1 : Int) := of_decide_eq_true (by first | (with_reducible assumption) | assumption)
                        have q12 : x5_1 < (a0.size : Int) := of_decide_eq_true (by first | (with_reducible assumption) | assumption)
                        have hx12 := bt_at a0 x5_1
                        replace p12 := eq_true p12
                        replace q12 := eq_true q12
                        have p14 : 0 ≤ (x5_1 : Int) := of_decide_eq_true (by first | (with_reducible assumption) | assumption)
                        have q14 : x5_1 < (a1.size : Int) := of_decide_eq_true (by first | (with_reducible assumption) | assumption)
                        have hx14 := bt_at a1 x5_1
                        replace p14 := eq_true p14
                        replace q14 := eq_true q14
                        go_wp2
                        repeat (go_quiet (fail); try go_wp2)
                        go_roundg kj2
                        case measure => have := HK1.out; have := HJ2.out; omega
                        case rel => exact ⟨(wrap64 (x5_1 + 1)), (by first | rfl | (simp; done) | (simp [*]; done)), H', ⟨by have := HK1.out; have := HJ2.out; omega⟩, by repeat (first | exact Drawn0.refl _ | apply Drawn0.step)⟩
                      · rw [if_neg c15] at H
                        have c15b0 : ((bt a1 x5_1) == 63) = false := beq_eq_false_iff_ne.mpr c15
                        have c15b1 : ((bt a1 x5_1) != 63) = true := bne_iff_ne.mpr c15
                        obtain rfl := Option.some.inj H
                        have p8 : 0 ≤ (x5_1 : Int) := of_decide_eq_true (by first | (with_reducible assumption) | assumption)
                        have q8 : x5_1 < (a0.size : Int) := of_decide_eq_true (by first | (with_reducible assumption) | assumption)
                        have hx8 := bt_at a0 x5_1
                        replace p8 := eq_true p8
                        replace q8 := eq_true q8
                        have p10 : 0 ≤ (x5_1 : Int) := of_decide_eq_true (by first | (with_reducible assumption) | assumption)
                        have q10 : x5_1 < (a1.size : Int) := of_decide_eq_true (by first | (with_reducible assumption) | assumption)
                        have hx10 := bt_at a1 x5_1
                        replace p10 := eq_true p10
                        replace q10 := eq_true q10
                        have p12 : 0 ≤ (x5_1 : Int) := of_decide_eq_true (by first | (with_reducible assumption) | assumption)
                        have q12 : x5_1 < (a0.size : Int) := of_decide_eq_true (by first | (with_reducible assumption) | assumption)
                        have hx12 := bt_at a0 x5_1
                        replace p12 := eq_true p12
                        replace q12 := eq_true q12
                        have p14 : 0 ≤ (x5_1 : Int) := of_decide_eq_true (by first | (with_reducible assumption) | assumption)
                        have q14 : x5_1 < (a1.size : Int) := of_decide_eq_true (by first | (with_reducible assumption) | assumption)
                        have hx14 := bt_at a1 x5_1
                        replace p14 := eq_true p14
                        replace q14 := eq_true q14
                        go_wp2
                        repeat (go_quiet (fail); try go_wp2)
                        go_ret
                        exact ⟨by first | rfl | (simp; done) | (simp [*]; done), by repeat (first | exact Drawn0.refl _ | apply Drawn0.step)⟩
                · rw [if_neg c9] at H
                  exact absurd H (by simp)
              · rw [if_neg c7] at H
                exact absurd H (by simp)
            · rw [if_neg c6] at H
              exact absurd H (by simp)
          · replace c5 := Bool.eq_false_iff.mpr c5
            subst c5
            have H1 : (some true) = some r := by rw [if_neg (show ¬ (false = true) by decide)] at H; exact H
            clear H
            have H := H1
            clear H1
            obtain rfl := Option.some.inj H
            go_wp2
            repeat (go_quiet (fail); try go_wp2)
            go_ret
            exact ⟨by first | rfl | (simp; done) | (simp [*]; done), by repeat (first | exact Drawn0.refl _ | apply Drawn0.step)⟩
def truth_compatible.l0 : Nat → ByteArray → ByteArray → Int → Int → Option (Bool)
  | 0, _, _, _, _ => none
  | k + 1, x0, x1, x7, x8 => if x8 < x7 then (if 0 ≤ x8 then (if x8 < (x0.size : Int) then (if x8 < (x1.size : Int) then (if (bt x0 x8) = (bt x1 x8) then (truth_compatible.l0 k x0 x1 x7 (wrap64 (x8 + 1))) else (if (bt x0 x8) = 63 then (truth_compatible.l0 k x0 x1 x7 (wrap64 (x8 + 1))) else (if (bt x1 x8) = 63 then (truth_compatible.l0 k x0 x1 x7 (wrap64 (x8 + 1))) else (some false)))) else (none)) else (none)) else (none)) else (some true)
def truth_compatible.f (k : Nat) (a0 : ByteArray) (a1 : ByteArray) : Option (Bool) := truth_compatible.l0 k a0 a1 (a0.size : Int) 0
theorem truth_compatible.mono_l : ∀ k, (∀ y0 y1 y2 y3, LeO (truth_compatible.l0 k y0 y1 y2 y3) (truth_compatible.l0 (k + 1) y0 y1 y2 y3))
  | 0 => fun _ _ _ _ r h => by simp [truth_compatible.l0] at h
  | k + 1 => by
    have ih0 := truth_compatible.mono_l k
    · intro y0 y1 y2 y3
      unfold truth_compatible.l0
      repeat' first
      | (with_reducible exact ih0 _ _ _ _)
      | (with_reducible exact LeO.refl _)
      | (with_reducible exact LeO.none _)
      | (with_reducible refine LeO.ite ?_ ?_)
      | (with_reducible refine LeO.bind ?_ (fun _ => ?_))
      | exact ih0 _ _ _ _
      | exact LeO.none _
      | refine LeO.ite ?_ ?_
      | refine LeO.bind ?_ (fun _ => ?_)
theorem truth_compatible.mono : ∀ a0 a1 k, LeO (truth_compatible.f k a0 a1) (truth_compatible.f (k + 1) a0 a1) := by
  intro a0 a1 k
  have ih0 := truth_compatible.mono_l k
  unfold truth_compatible.f
  repeat' first
      | (with_reducible exact ih0 _ _ _ _)
      | (with_reducible exact LeO.refl _)
      | (with_reducible exact LeO.none _)
      | (with_reducible refine LeO.ite ?_ ?_)
      | (with_reducible refine LeO.bind ?_ (fun _ => ?_))
      | exact ih0 _ _ _ _
      | exact LeO.none _
      | refine LeO.ite ?_ ?_
      | refine LeO.bind ?_ (fun _ => ?_)
set_option maxHeartbeats 8000000 in
set_option maxRecDepth 100000 in
theorem truth_compatible.calls (k : Nat) (a0 : ByteArray) (a1 : ByteArray) (r : Bool) (w : World) (h : truth_compatible.f k a0 a1 = some r) :
    Calls Tryz.prog 39 #[.string a0, .string a1] w fun e w' => e = .returned (.bool r) ∧ Drawn0 w w' := by
  have H : (truth_compatible.l0 k a0 a1 (a0.size : Int) 0) = some r := h
  clear h
  have H' := Aside0.mk H
  clear H
  go_enter Tryz.func39, Tryz.ntmps39
  go_wp2
  repeat (go_quiet (fail); try go_wp2)
  go_loopg [8] k (fun kq v8 w' => ∃ (x8_1 : Int), v8 = .int .i64 x8_1 ∧ Aside0 (truth_compatible.l0 kq a0 a1 (a0.size : Int) x8_1 = some r) ∧ Aside0 (kq ≤ k) ∧ Drawn0 w w')
  case atStart => exact ⟨(0), (by first | rfl | (simp; done) | (simp [*]; done)), H', ⟨Nat.le_refl _⟩, by repeat (first | exact Drawn0.refl _ | apply Drawn0.step)⟩
  case round =>
    clear H'
    try clear p2
    obtain ⟨x8_1, rfl, HA, HK1, ⟨m1, rfl⟩⟩ := hrel
    cases gk with
    | zero => exact absurd HA.out (by simp [truth_compatible.l0])
    | succ k1 =>
      have H := HA.out
      clear HA
      simp only [truth_compatible.l0] at H
      by_cases c3 : x8_1 < (a0.size : Int)
      · rw [if_pos c3] at H
        have c3b0 : decide (x8_1 < (a0.size : Int)) = true := decide_eq_true c3
        clear c3
        by_cases c4 : 0 ≤ x8_1
        · rw [if_pos c4] at H
          have c4b0 : decide (0 ≤ x8_1) = true := decide_eq_true c4
          clear c4
          by_cases c5 : x8_1 < (a0.size : Int)
          · rw [if_pos c5] at H
            have c5b0 : decide (x8_1 < (a0.size : Int)) = true := decide_eq_true c5
            clear c5
            by_cases c7 : x8_1 < (a1.size : Int)
            · rw [if_pos c7] at H
              have c7b0 : decide (x8_1 < (a1.size : Int)) = true := decide_eq_true c7
              clear c7
              by_cases c9 : (bt a0 x8_1) = (bt a1 x8_1)
              · rw [if_pos c9] at H
                have c9b0 : ((bt a0 x8_1) == (bt a1 x8_1)) = true := beq_iff_eq.mpr c9
                have c9b1 : ((bt a0 x8_1) != (bt a1 x8_1)) = false := bne_eq_false_iff_eq.mpr c9
                clear c9
                have H' := Aside0.mk H
                clear H
                have p6 : 0 ≤ (x8_1 : Int) := of_decide_eq_true (by first | (with_reducible assumption) | assumption)
                have q6 : x8_1 < (a0.size : Int) := of_decide_eq_true (by first | (with_reducible assumption) | assumption)
                have hx6 := bt_at a0 x8_1
                replace p6 := eq_true p6
                replace q6 := eq_true q6
                have p8 : 0 ≤ (x8_1 : Int) := of_decide_eq_true (by first | (with_reducible assumption) | assumption)
                have q8 : x8_1 < (a1.size : Int) := of_decide_eq_true (by first | (with_reducible assumption) | assumption)
                have hx8 := bt_at a1 x8_1
                replace p8 := eq_true p8
                replace q8 := eq_true q8
                go_wp2
                repeat (go_quiet (fail); try go_wp2)
                go_roundg k1
                case measure => have := HK1.out; omega
                case rel => exact ⟨(wrap64 (x8_1 + 1)), (by first | rfl | (simp; done) | (simp [*]; done)), H', ⟨by have := HK1.out; omega⟩, by repeat (first | exact Drawn0.refl _ | apply Drawn0.step)⟩
              · rw [if_neg c9] at H
                have c9b0 : ((bt a0 x8_1) == (bt a1 x8_1)) = false := beq_eq_false_iff_ne.mpr c9
                have c9b1 : ((bt a0 x8_1) != (bt a1 x8_1)) = true := bne_iff_ne.mpr c9
                by_cases c11 : (bt a0 x8_1) = 63
                · rw [if_pos c11] at H
                  have c11b0 : ((bt a0 x8_1) == 63) = true := beq_iff_eq.mpr c11
                  have c11b1 : ((bt a0 x8_1) != 63) = false := bne_eq_false_iff_eq.mpr c11
                  clear c11
                  have H' := Aside0.mk H
                  clear H
                  have p6 : 0 ≤ (x8_1 : Int) := of_decide_eq_true (by first | (with_reducible assumption) | assumption)
                  have q6 : x8_1 < (a0.size : Int) := of_decide_eq_true (by first | (with_reducible assumption) | assumption)
                  have hx6 := bt_at a0 x8_1
                  replace p6 := eq_true p6
                  replace q6 := eq_true q6
                  have p8 : 0 ≤ (x8_1 : Int) := of_decide_eq_true (by first | (with_reducible assumption) | assumption)
                  have q8 : x8_1 < (a1.size : Int) := of_decide_eq_true (by first | (with_reducible assumption) | assumption)
                  have hx8 := bt_at a1 x8_1
                  replace p8 := eq_true p8
                  replace q8 := eq_true q8
                  have p10 : 0 ≤ (x8_1 : Int) := of_decide_eq_true (by first | (with_reducible assumption) | assumption)
                  have q10 : x8_1 < (a0.size : Int) := of_decide_eq_true (by first | (with_reducible assumption) | assumption)
                  have hx10 := bt_at a0 x8_1
                  replace p10 := eq_true p10
                  replace q10 := eq_true q10
                  go_wp2
                  repeat (go_quiet (fail); try go_wp2)
                  go_roundg k1
                  case measure => have := HK1.out; omega
                  case rel => exact ⟨(wrap64 (x8_1 + 1)), (by first | rfl | (simp; done) | (simp [*]; done)), H', ⟨by have := HK1.out; omega⟩, by repeat (first | exact Drawn0.refl _ | apply Drawn0.step)⟩
                · rw [if_neg c11] at H
                  have c11b0 : ((bt a0 x8_1) == 63) = false := beq_eq_false_iff_ne.mpr c11
                  have c11b1 : ((bt a0 x8_1) != 63) = true := bne_iff_ne.mpr c11
                  by_cases c13 : (bt a1 x8_1) = 63
                  · rw [if_pos c13] at H
                    have c13b0 : ((bt a1 x8_1) == 63) = true := beq_iff_eq.mpr c13
                    have c13b1 : ((bt a1 x8_1) != 63) = false := bne_eq_false_iff_eq.mpr c13
                    clear c13
                    have H' := Aside0.mk H
                    clear H
                    have p6 : 0 ≤ (x8_1 : Int) := of_decide_eq_true (by first | (with_reducible assumption) | assumption)
                    have q6 : x8_1 < (a0.size : Int) := of_decide_eq_true (by first | (with_reducible assumption) | assumption)
                    have hx6 := bt_at a0 x8_1
                    replace p6 := eq_true p6
                    replace q6 := eq_true q6
                    have p8 : 0 ≤ (x8_1 : Int) := of_decide_eq_true (by first | (with_reducible assumption) | assumption)
                    have q8 : x8_1 < (a1.size : Int) := of_decide_eq_true (by first | (with_reducible assumption) | assumption)
                    have hx8 := bt_at a1 x8_1
                    replace p8 := eq_true p8
                    replace q8 := eq_true q8
                    have p10 : 0 ≤ (x8_1 : Int) := of_decide_eq_true (by first | (with_reducible assumption) | assumption)
                    have q10 : x8_1 < (a0.size : Int) := of_decide_eq_true (by first | (with_reducible assumption) | assumption)
                    have hx10 := bt_at a0 x8_1
                    replace p10 := eq_true p10
                    replace q10 := eq_true q10
                    have p12 : 0 ≤ (x8_1 : Int) := of_decide_eq_true (by first | (with_reducible assumption) | assumption)
                    have q12 : x8_1 < (a1.size : Int) := of_decide_eq_true (by first | (with_reducible assumption) | assumption)
                    have hx12 := bt_at a1 x8_1
                    replace p12 := eq_true p12
                    replace q12 := eq_true q12
                    go_wp2
                    repeat (go_quiet (fail); try go_wp2)
                    go_roundg k1
                    case measure => have := HK1.out; omega
                    case rel => exact ⟨(wrap64 (x8_1 + 1)), (by first | rfl | (simp; done) | (simp [*]; done)), H', ⟨by have := HK1.out; omega⟩, by repeat (first | exact Drawn0.refl _ | apply Drawn0.step)⟩
                  · rw [if_neg c13] at H
                    have c13b0 : ((bt a1 x8_1) == 63) = false := beq_eq_false_iff_ne.mpr c13
                    have c13b1 : ((bt a1 x8_1) != 63) = true := bne_iff_ne.mpr c13
                    obtain rfl := Option.some.inj H
                    have p6 : 0 ≤ (x8_1 : Int) := of_decide_eq_true (by first | (with_reducible assumption) | assumption)
                    have q6 : x8_1 < (a0.size : Int) := of_decide_eq_true (by first | (with_reducible assumption) | assumption)
                    have hx6 := bt_at a0 x8_1
                    replace p6 := eq_true p6
                    replace q6 := eq_true q6
                    have p8 : 0 ≤ (x8_1 : Int) := of_decide_eq_true (by first | (with_reducible assumption) | assumption)
                    have q8 : x8_1 < (a1.size : Int) := of_decide_eq_true (by first | (with_reducible assumption) | assumption)
                    have hx8 := bt_at a1 x8_1
                    replace p8 := eq_true p8
                    replace q8 := eq_true q8
                    have p10 : 0 ≤ (x8_1 : Int) := of_decide_eq_true (by first | (with_reducible assumption) | assumption)
                    have q10 : x8_1 < (a0.size : Int) := of_decide_eq_true (by first | (with_reducible assumption) | assumption)
                    have hx10 := bt_at a0 x8_1
                    replace p10 := eq_true p10
                    replace q10 := eq_true q10
                    have p12 : 0 ≤ (x8_1 : Int) := of_decide_eq_true (by first | (with_reducible assumption) | assumption)
                    have q12 : x8_1 < (a1.size : Int) := of_decide_eq_true (by first | (with_reducible assumption) | assumption)
                    have hx12 := bt_at a1 x8_1
                    replace p12 := eq_true p12
                    replace q12 := eq_true q12
                    go_wp2
                    repeat (go_quiet (fail); try go_wp2)
                    go_ret
                    exact ⟨by first | rfl | (simp; done) | (simp [*]; done), by repeat (first | exact Drawn0.refl _ | apply Drawn0.step)⟩
            · rw [if_neg c7] at H
              exact absurd H (by simp)
          · rw [if_neg c5] at H
            exact absurd H (by simp)
        · rw [if_neg c4] at H
          exact absurd H (by simp)
      · rw [if_neg c3] at H
        have c3b0 : decide (x8_1 < (a0.size : Int)) = false := decide_eq_false c3
        clear c3
        obtain rfl := Option.some.inj H
        go_wp2
        repeat (go_quiet (fail); try go_wp2)
        go_ret
        exact ⟨by first | rfl | (simp; done) | (simp [*]; done), by repeat (first | exact Drawn0.refl _ | apply Drawn0.step)⟩
end Go.Proofs.YtijaefmaceolbaaGreatDoor.Im

