/- Further parts of the same walk: contracts of the functions that the law reaches, each under the conditions that it states. -/
import Derived.Test.YtijaefmaceolbaaDoorC8E
import Derived.WalkSpells
namespace Go.Proofs.YtijaefmaceolbaaDoor.Im
open Go.RowKit Go.Proofs.YtijaefmaceolbaaDoorW.PrintWords Go.Proofs.YtijaefmaceolbaaDoorW.PrintLast Go.Proofs.YtijaefmaceolbaaDoorW.PrintMore Go.Proofs.YtijaefmaceolbaaDoor.Tr
set_option linter.unusedVariables false
set_option linter.unusedSimpArgs false
theorem ints_snoc (l : List Nat) (j : Nat) : ints (l ++ [j]) = ints l ++ [(j : Int)] := by simp [ints]
set_option maxHeartbeats 6400000 in
set_option maxRecDepth 100000 in
theorem cyc1_succ (ga gl gd go gm n long : Nat) (odd : Bool) (fs : List Fm) (R : Nat → Nat) (n10 : n ≤ 10) (hlong : long ≤ 10) (way : List Nat) (can : Bool × Bool) (A : Option Addr) (c : Nat) (w : World) (d : Nat)
    (hih : ∀ (way : List Nat) (can : Bool × Bool) (A : Option Addr) (c : Nat) (w : World), way.length + d = long → 1 ≤ way.length → (∀ x ∈ way, x < n) → CycB w ga gl gd go gm n long odd fs R → Kd.C (Kd.int .i64) w A (ints way).length (ints way) → (ints way).length ≤ c →
      Calls Tryd.prog 57 #[.slice A (ints way).length c, .agg #[.bool can.1, .bool can.2], .pointer (some ⟨ga, 0, none⟩), .pointer (some ⟨gl, 0, none⟩), .pointer (some ⟨gd, 0, none⟩), .pointer (some ⟨go, 0, none⟩)] w (FoundP w (cyc (sgF fs) n odd d way can)))
    (hl : way.length + (d + 1) = long) (h1 : 1 ≤ way.length) (hx : ∀ x ∈ way, x < n)
    (hO : CycB w ga gl gd go gm n long odd fs R) (hr : Kd.C (Kd.int .i64) w A (ints way).length (ints way)) (hc : (ints way).length ≤ c) :
    Calls Tryd.prog 57 #[.slice A (ints way).length c, .agg #[.bool can.1, .bool can.2], .pointer (some ⟨ga, 0, none⟩), .pointer (some ⟨gl, 0, none⟩), .pointer (some ⟨gd, 0, none⟩), .pointer (some ⟨go, 0, none⟩)] w (FoundP w (cyc (sgF fs) n odd (d + 1) way can)) := by
  have hlen : (ints way).length = way.length := ints_length way
  obtain ⟨ad, rfl⟩ := C_some hr (by omega)
  obtain ⟨_, e0, cl⟩ := Kd.at_int hr ((way.length : Int) - 1) (by omega) (by omega)
  cases e0
  rw [last_int way h1, show ((way.length : Int) - 1).toNat = way.length - 1 by omega] at cl
  have hla := hx _ (last_mem h1)
  have cm : w.cell? ⟨gm, way.getLastD 0, none⟩ = some (.slice (some ⟨R (way.getLastD 0), 0, none⟩) n n) := by rw [hO.M.bm.cell]; exact mtxC_get n n R _ hla hla
  have HBR := Aside0.mk (hO.M.br _ hla)
  obtain ⟨gg, hgg⟩ : ∃ gg : Nat → Option (List Nat), gg = fun j => if way.contains j || !((jn can (sgF fs (way.getLastD 0) j)).1 || (jn can (sgF fs (way.getLastD 0) j)).2) then none else cyc (sgF fs) n odd d (way ++ [j]) (jn can (sgF fs (way.getLastD 0) j)) := ⟨_, rfl⟩
  have HSH := Aside0.mk (show (List.range n).findSome? gg = cyc (sgF fs) n odd (d + 1) way can by rw [hgg]; rfl)
  have HGG := Aside0.mk (fun j => (show gg j = if way.contains j || !((jn can (sgF fs (way.getLastD 0) j)).1 || (jn can (sgF fs (way.getLastD 0) j)).2) then none else cyc (sgF fs) n odd d (way ++ [j]) (jn can (sgF fs (way.getLastD 0) j)) from by rw [hgg]))
  obtain ⟨RR, hRR⟩ : ∃ RR, cyc (sgF fs) n odd (d + 1) way can = RR := ⟨_, rfl⟩
  rw [hRR] at HSH ⊢
  have IH := Aside0.mk hih
  have HX := Aside0.mk hx
  have hq := hl
  clear hih
  have ca : w.cell? ⟨ga, 0, none⟩ = some (.slice (some ⟨gm, 0, none⟩) n n) := hO.ba.cell 0
  have HO := Aside0.mk hO
  have HR := Aside0.mk hr
  rw [hlen] at HR hc ⊢
  have HLEN := Aside0.mk hlen
  have HW := Aside0.mk h1
  have HL := Aside0.mk hl
  clear hRR hgg hO hr hlen
  have qn : ∀ (w : World) (a : Option Addr) (n c n' c' : Nat), (binOp .neq 25 (.slice a n c) (.slice none n' c')).run Tryd.prog w = .ok (.bool (!a.isNone)) w := fun w a n c n' c' => run_neq_slice_nil_any w _ _ a n c n' c' Tryd.underlying25
  generalize way.getLastD 0 = la at *
  generalize hwq : way.length = q at *
  have HWQ := Aside0.mk hwq
  have la0 : (0 : Int) ≤ la := by omega
  have la1 : (la : Int) < (n : Int) := by omega
  have wl0 : (0 : Int) ≤ (q : Int) - 1 := by omega
  have wl1 : ((q : Int) - 1).toNat = q - 1 := by omega
  have neq : ((q : Int) == (long : Int)) = false := beq_eq_false_iff_ne.2 (by omega)
  have n0 : (0 : Int) ≤ (n : Int) := by omega
  have q10 : q ≤ 10 := by omega
  clear hl hlong hx hq hwq
  obtain ⟨c1, c2⟩ := can
  have HB0 := Aside0.mk (below_alloc (Below.refl w.heap.size w) (.cells #[.bool c1, .bool c2] 73))
  have HBC := Aside0.mk (Blk.new w 73 #[.bool c1, .bool c2])
  have cl' := pw_cell_below HB0.out cl
  have ca' := pw_cell_below HB0.out ca
  have cm' := pw_cell_below HB0.out cm
  go_enter Tryd.func57, Tryd.ntmps57
  go_wp2_with fail
  clear cl ca cm cl' ca' cm'
  go_loopw [25] (fun v wr => ∃ k : Nat, k ≤ n ∧ v = .int .i64 (k : Int) ∧ Aside0 (noneTo (List.range n) gg k) ∧ Aside0 (Below w.heap.size w wr) ∧ Aside0 (Blk wr w.heap.size 73 #[.bool c1, .bool c2])) (fun v _ => n - (intOf v).toNat)
  case atStart => exact ⟨0, by omega, rfl, ⟨noneTo_zero _ _⟩, HB0, HBC⟩
  case round =>
    clear HB0 HBC
    obtain ⟨k, hk, rfl, HN, HB, HBC⟩ := hrel
    have k0 : (0 : Int) ≤ (k : Int) := by omega
    by_cases hkn : k < n
    · have hkn' : (k : Int) < (n : Int) := by omega
      have hbk := HBR.out.later HB.out
      have ce : wr.cell? ⟨R la, k * 2, none⟩ = some (.bool (sgF fs la k).1) := by rw [hbk.cell]; exact rowC_even n _ k hkn
      have co : wr.cell? ⟨R la, k * 2 + 1, none⟩ = some (.bool (sgF fs la k).2) := by rw [hbk.cell]; exact rowC_odd n _ k hkn
      have cc0 : wr.cell? ⟨w.heap.size, 0, none⟩ = some (.bool c1) := HBC.out.cell 0
      have cc1 : wr.cell? ⟨w.heap.size, 1, none⟩ = some (.bool c2) := HBC.out.cell 1
      have HGk := Aside0.mk (HGG.out k)
      have HNN := Aside0.mk (fun h => noneTo_succ HN.out (by rw [List.length_range]; exact hkn) h)
      have HNS := Aside0.mk (fun r h => noneTo_some (r := r) HN.out (by rw [List.length_range]; exact hkn) h)
      simp only [List.getElem_range] at HNN HNS
      clear hbk
      obtain ⟨a1, a2, ha⟩ : ∃ a1 a2, sgF fs la k = (a1, a2) := ⟨_, _, rfl⟩
      rw [ha] at ce co HGk
      clear ha
      obtain ⟨x1, hx1⟩ : ∃ x1, (c1 && a1 || c2 && a2) = x1 := ⟨_, rfl⟩
      obtain ⟨x2, hx2⟩ : ∃ x2, (c1 && a2 || c2 && a1) = x2 := ⟨_, rfl⟩
      have hj : jn (c1, c2) (a1, a2) = (x1, x2) := by rw [← hx1, ← hx2]; rfl
      rw [hj] at HGk
      have HX1 := Aside0.mk hx1
      have HX2 := Aside0.mk hx2
      clear hx1 hx2 hj
      have hba : Below wr.heap.size wr (wr.alloc (.cells #[.bool a1, .bool a2] 73)) := below_alloc (Below.refl _ _) _
      have HBA := Aside0.mk hba
      have d0 : (wr.alloc (.cells #[.bool a1, .bool a2] 73)).cell? ⟨w.heap.size, 0, none⟩ = some (.bool c1) := (HBC.out.later hba).cell 0
      have d1 : (wr.alloc (.cells #[.bool a1, .bool a2] 73)).cell? ⟨w.heap.size, 1, none⟩ = some (.bool c2) := (HBC.out.later hba).cell 1
      have d2 : (wr.alloc (.cells #[.bool a1, .bool a2] 73)).cell? ⟨wr.heap.size, 0, none⟩ = some (.bool a1) := (Blk.new wr 73 #[.bool a1, .bool a2]).cell 0
      have d3 : (wr.alloc (.cells #[.bool a1, .bool a2] 73)).cell? ⟨wr.heap.size, 1, none⟩ = some (.bool a2) := (Blk.new wr 73 #[.bool a1, .bool a2]).cell 1
      clear cc0 cc1 hba
      go_upto_region 5 with fail
      clear ce co
      generalize wr.alloc (.cells #[.bool a1, .bool a2] 73) = W0 at *
      go_cut [12] (fun s12 wx => ∃ g : Nat, s12 = .pointer (some ⟨g, 0, none⟩) ∧ Aside0 (Blk wx g 73 #[.bool x1, .bool x2]) ∧ Aside0 (Below W0.heap.size W0 wx))
      case first =>
        cases c1 <;> cases c2 <;> cases a1 <;> cases a2
        all_goals
          have h1 := HX1.out
          have h2 := HX2.out
          simp only [Bool.and_true, Bool.and_false, Bool.or_true, Bool.or_false, Bool.true_and, Bool.false_and, Bool.true_or, Bool.false_or] at h1 h2
          subst h1
          subst h2
          go_wp2_with fail
          go_meet
          exact ⟨_, rfl, ⟨Blk.new _ _ _⟩, ⟨below_alloc (Below.refl _ _) _⟩⟩
      case rest =>
        obtain ⟨g, rfl, HBN, HBW⟩ := hcut
        have hwc := below_then HBA.out HBA.out.size HBW.out
        have HBT := Aside0.mk (below_then HB.out HB.out.size hwc)
        have HBC2 := Aside0.mk (HBC.out.later hwc)
        have HOc := Aside0.mk (HO.out.later HBT.out)
        have c7 : wc.cell? ⟨gl, 0, none⟩ = some (.int .i64 (long : Nat)) := HOc.out.bl.cell 0
        have cn0 : wc.cell? ⟨g, 0, none⟩ = some (.bool x1) := HBN.out.cell 0
        have cn1 : wc.cell? ⟨g, 1, none⟩ = some (.bool x2) := HBN.out.cell 1
        have hgk := HGk.out
        have HCC := Aside0.mk (show Calls Tryd.prog 58 #[.slice (some ad) q c, .int .i64 (k : Nat)] wc (fun e w' => e = .returned (.bool (way.contains k)) ∧ wc = w') from by
          have := has_any (some ad) c (ints way) (k : Nat) wc (by rw [HLEN.out]; exact Kd.C_below HR.out HBT.out) (by rw [HLEN.out]; exact hc) (by rw [HLEN.out]; omega)
          rw [hasI_ints, HLEN.out] at this
          exact this)
        clear hwc d0 d1 d2 d3 HX1 HX2 HB HBC HBA
        cases hz : (x1 || x2)
        · have h1 : x1 = false := by cases x1 <;> simp at hz ⊢
          have h2 : x2 = false := by cases x2 <;> simp at hz ⊢
          subst h1
          subst h2
          have HN1 := Aside0.mk (HNN.out (by rw [hgk]; simp))
          clear hgk HNN HNS HGk hz
          go_wp2_with fail
          go_roundw
          case rel => exact ⟨k + 1, by omega, by go_num, HN1, HBT, HBC2⟩
          case measure => simp [intOf]; omega
        · cases hct : way.contains k
          · have hgk2 : gg k = cyc (sgF fs) n odd d (way ++ [k]) (x1, x2) := by rw [hgk, hct]; simp only [hz]; rfl
            rw [hct] at HCC
            clear hgk hct HGk
            obtain ⟨ro, hro⟩ : ∃ ro, cyc (sgF fs) n odd d (way ++ [k]) (x1, x2) = ro := ⟨_, rfl⟩
            rw [hro] at hgk2
            have HZ := Aside0.mk hz
            have HRO := Aside0.mk hro
            have HGK := Aside0.mk hgk2
            clear hz hro hgk2
            cases x1 <;> cases x2
            · cases HZ.out
            · go_wp2_with fail
              refine HCC.out.mono ?_
              rintro e w2 ⟨rfl, rfl⟩
              go_wp2_with fail
              have hd0 : Below wc.heap.size wc wc.drew := below_drew (Below.refl _ _)
              have HO2 := Aside0.mk (HOc.out.later hd0)
              have HB2 := Aside0.mk (below_drew HBT.out)
              have HG2 := Aside0.mk (HBN.out.later hd0)
              have HC2 := Aside0.mk (HBC2.out.later hd0)
              have hb23 : Below wc.drew.heap.size wc.drew (wc.drew.alloc (.cells #[.int .i64 (k : Nat)] 3)) := below_alloc (Below.refl _ _) _
              have HO3 := Aside0.mk (HO2.out.later hb23)
              have HB3 := Aside0.mk (below_then HB2.out HB2.out.size hb23)
              have HG3 := Aside0.mk (HG2.out.later hb23)
              have HC3 := Aside0.mk (HC2.out.later hb23)
              have HR3 := Aside0.mk (Kd.C_below HR.out HB3.out)
              clear hb23 hd0
              refine wp_region_held (S := fun wx => CycB wx ga gl gd go gm n long odd fs R ∧ Below w.heap.size w wx ∧ Blk wx g 73 #[.bool false, .bool true]) (by kernel_rfl) ?_
              refine tk (i := 0) 95 (v := .func (.func 57) #[] #[.pointer (some ⟨ga, 0, none⟩), .pointer (some ⟨gl, 0, none⟩), .pointer (some ⟨gd, 0, none⟩), .pointer (some ⟨go, 0, none⟩)]) rfl rfl (by kernel_rfl) (by kernel_rfl) (by kernel_rfl) (fun _ _ _ h => h) (by kernel_rfl) (fun wx h => ex_load1 rfl wx ⟨go, 0, none⟩ _ rfl (h.1.bo.cell 0) (fun w => by kernel_rfl)) ⟨HO2.out, HB2.out, HG2.out⟩ ?_
              simp only [pt_lit, List.set_cons_succ, List.set_cons_zero]
              refine tk (i := 10) 105 (v := .agg #[.bool false, .bool true]) rfl rfl (by kernel_rfl) (by kernel_rfl) (by kernel_rfl) (fun _ _ _ h => h) (by kernel_rfl) (fun wx h => ex_loadS rfl wx g false true rfl h.2.2) ⟨HO2.out, HB2.out, HG2.out⟩ ?_
              simp only [pt_lit, List.set_cons_succ, List.set_cons_zero]
              refine tk (i := 1) 96 (v := .slice (some ad) q c) rfl rfl (by kernel_rfl) (by kernel_rfl) (by kernel_rfl) (fun _ _ _ h => h) (by kernel_rfl) (fun wx _ => by kernel_rfl) ⟨HO2.out, HB2.out, HG2.out⟩ ?_
              simp only [pt_lit, List.set_cons_succ, List.set_cons_zero]
              refine tk (i := 2) 97 (v := .slice (some ad) q c) rfl rfl (by kernel_rfl) (by kernel_rfl) (by kernel_rfl) (fun _ _ _ h => h) (by kernel_rfl) (fun wx _ => by kernel_rfl) ⟨HO2.out, HB2.out, HG2.out⟩ ?_
              simp only [pt_lit, List.set_cons_succ, List.set_cons_zero]
              refine tk (i := 3) 98 (v := .int .i64 (q : Nat)) rfl rfl (by kernel_rfl) (by kernel_rfl) (by kernel_rfl) (fun _ _ _ h => h) (by kernel_rfl) (fun wx _ => by kernel_rfl) ⟨HO2.out, HB2.out, HG2.out⟩ ?_
              simp only [pt_lit, List.set_cons_succ, List.set_cons_zero]
              refine tk (i := 4) 99 (v := .slice (some ad) q c) rfl rfl (by kernel_rfl) (by kernel_rfl) (by kernel_rfl) (fun _ _ _ h => h) (by kernel_rfl) (fun wx _ => by kernel_rfl) ⟨HO2.out, HB2.out, HG2.out⟩ ?_
              simp only [pt_lit, List.set_cons_succ, List.set_cons_zero]
              refine tk (i := 5) 100 (v := .int .i64 (q : Nat)) rfl rfl (by kernel_rfl) (by kernel_rfl) (by kernel_rfl) (fun _ _ _ h => h) (by kernel_rfl) (fun wx _ => by kernel_rfl) ⟨HO2.out, HB2.out, HG2.out⟩ ?_
              simp only [pt_lit, List.set_cons_succ, List.set_cons_zero]
              refine tk (i := 6) 101 (v := .slice (some ad) q q) rfl rfl (by kernel_rfl) (by kernel_rfl) (by kernel_rfl) (fun _ _ _ h => h) (by kernel_rfl) (fun wx _ => ex_slice3 rfl wx (some ad) q c rfl rfl rfl hc) ⟨HO2.out, HB2.out, HG2.out⟩ ?_
              simp only [pt_lit, List.set_cons_succ, List.set_cons_zero]
              refine tk (i := 7) 102 (v := .int .i64 (k : Nat)) rfl rfl (by kernel_rfl) (by kernel_rfl) (by kernel_rfl) (fun _ _ _ h => h) (by kernel_rfl) (fun wx _ => by kernel_rfl) ⟨HO2.out, HB2.out, HG2.out⟩ ?_
              simp only [pt_lit, List.set_cons_succ, List.set_cons_zero]
              refine rv (i := 8) 103 (v := .slice (some ⟨wc.heap.size, 0, none⟩) 1 1) (w' := wc.drew.alloc (.cells #[.int .i64 (k : Nat)] 3)) (by kernel_rfl) rfl rfl (by kernel_rfl) (by kernel_rfl) ⟨HO3.out, HB3.out, HG3.out⟩ ?_
              simp only [pt_lit, List.set_cons_succ, List.set_cons_zero]
              refine r_app1 (i := 9) 104 (by kernel_rfl) rfl rfl (by kernel_rfl) (s := .tmp 101) (x := .tmp 103) rfl rfl (some ad) (ints way) wc.heap.size (k : Nat) (by rw [HLEN.out]; rfl) rfl (by rw [HLEN.out]; exact HR3.out) ((Blk.new wc.drew 3 #[.int .i64 (k : Nat)]).cell 0) (by rw [HLEN.out]; omega) (fun h => by cases h) ?_
              intro v4 w4 hr4 hb4
              rw [← ints_snoc] at hr4
              obtain ⟨A4, c4, rfl, hl4, hC4⟩ := Kd.R_reads hr4
              have HO4 := Aside0.mk (HO3.out.later hb4)
              have HG4 := Aside0.mk (HG3.out.later hb4)
              have HC4 := Aside0.mk (HC3.out.later hb4)
              have HB4 := Aside0.mk (below_then HB3.out HB3.out.size hb4)
              refine ⟨⟨HO4.out, HB4.out, HG4.out⟩, ?_⟩
              simp only [pt_lit, List.set_cons_succ, List.set_cons_zero]
              refine rc (i := 11) 106 (f := 57) (args := #[.slice A4 (ints (way ++ [k])).length c4, .agg #[.bool false, .bool true], .pointer (some ⟨ga, 0, none⟩), .pointer (some ⟨gl, 0, none⟩), .pointer (some ⟨gd, 0, none⟩), .pointer (some ⟨go, 0, none⟩)]) (by kernel_rfl) rfl rfl (by kernel_rfl) (by kernel_rfl) ?_
              refine (IH.out (way ++ [k]) (false, true) A4 c4 _ (by rw [List.length_append, List.length_singleton]; have h1 := HL.out; have h2 := HWQ.out; omega) (by rw [List.length_append, List.length_singleton]; omega) (fun x hx => by rcases List.mem_append.1 hx with h | h; exact HX.out x h; rw [List.mem_singleton.1 h]; exact hkn) HO4.out hC4 hl4).mono ?_
              rw [HRO.out]
              clear hr4 hC4 hl4
              cases ro with
              | none =>
                rintro e w5 ⟨rfl, hb5⟩
                have HN1 := Aside0.mk (HNN.out HGK.out)
                have HO5 := Aside0.mk (HO4.out.later hb5)
                have HG5 := Aside0.mk (HG4.out.later hb5)
                have HC5 := Aside0.mk (HC4.out.later hb5)
                have HB5 := Aside0.mk (below_then HB4.out HB4.out.size hb5)
                refine ⟨_, rfl, ⟨HO5.out, HB5.out, HG5.out⟩, ?_⟩
                clear hb5 hb4 HNN HNS
                simp only [pt_lit, List.set_cons_succ, List.set_cons_zero]
                refine rv (i := 12) 13 (v := .slice none 0 0) (w' := w5) (by kernel_rfl) rfl rfl (by kernel_rfl) (by kernel_rfl) ⟨HO5.out, HB5.out, HG5.out⟩ ?_
                simp only [pt_lit, List.set_cons_succ, List.set_cons_zero]
                refine wpAnyH_done (by kernel_rfl) ?_ _
                go_wp2_with fail
                go_roundw
                case rel => exact ⟨k + 1, by omega, by go_num, HN1, HB5, HC5⟩
                case measure => simp [intOf]; omega
              | some res =>
                rintro e w5 ⟨A5, c5, rfl, hl5, hC5, hb5⟩
                have HF := Aside0.mk (HSH.out.symm.trans (HNS.out res HGK.out))
                have HO5 := Aside0.mk (HO4.out.later hb5)
                have HG5 := Aside0.mk (HG4.out.later hb5)
                have HB5 := Aside0.mk (below_then HB4.out HB4.out.size hb5)
                have HC5 := Aside0.mk hC5
                have HL5 := Aside0.mk hl5
                refine ⟨_, rfl, ⟨HO5.out, HB5.out, HG5.out⟩, ?_⟩
                clear hb5 hC5 hb4 hl5 HNN HNS
                simp only [pt_lit, List.set_cons_succ, List.set_cons_zero]
                refine rv (i := 12) 13 (v := .slice (some A5) (ints res).length c5) (w' := w5) (by kernel_rfl) rfl rfl (by kernel_rfl) (by kernel_rfl) ⟨HO5.out, HB5.out, HG5.out⟩ ?_
                simp only [pt_lit, List.set_cons_succ, List.set_cons_zero]
                refine wpAnyH_done (by kernel_rfl) ?_ _
                go_wp2_with fail
                go_ret
                rw [HF.out]
                exact ⟨A5, c5, rfl, HL5.out, HC5.out, HB5.out⟩
            · go_wp2_with fail
              refine HCC.out.mono ?_
              rintro e w2 ⟨rfl, rfl⟩
              go_wp2_with fail
              have hd0 : Below wc.heap.size wc wc.drew := below_drew (Below.refl _ _)
              have HO2 := Aside0.mk (HOc.out.later hd0)
              have HB2 := Aside0.mk (below_drew HBT.out)
              have HG2 := Aside0.mk (HBN.out.later hd0)
              have HC2 := Aside0.mk (HBC2.out.later hd0)
              have hb23 : Below wc.drew.heap.size wc.drew (wc.drew.alloc (.cells #[.int .i64 (k : Nat)] 3)) := below_alloc (Below.refl _ _) _
              have HO3 := Aside0.mk (HO2.out.later hb23)
              have HB3 := Aside0.mk (below_then HB2.out HB2.out.size hb23)
              have HG3 := Aside0.mk (HG2.out.later hb23)
              have HC3 := Aside0.mk (HC2.out.later hb23)
              have HR3 := Aside0.mk (Kd.C_below HR.out HB3.out)
              clear hb23 hd0
              refine wp_region_held (S := fun wx => CycB wx ga gl gd go gm n long odd fs R ∧ Below w.heap.size w wx ∧ Blk wx g 73 #[.bool true, .bool false]) (by kernel_rfl) ?_
              refine tk (i := 0) 95 (v := .func (.func 57) #[] #[.pointer (some ⟨ga, 0, none⟩), .pointer (some ⟨gl, 0, none⟩), .pointer (some ⟨gd, 0, none⟩), .pointer (some ⟨go, 0, none⟩)]) rfl rfl (by kernel_rfl) (by kernel_rfl) (by kernel_rfl) (fun _ _ _ h => h) (by kernel_rfl) (fun wx h => ex_load1 rfl wx ⟨go, 0, none⟩ _ rfl (h.1.bo.cell 0) (fun w => by kernel_rfl)) ⟨HO2.out, HB2.out, HG2.out⟩ ?_
              simp only [pt_lit, List.set_cons_succ, List.set_cons_zero]
              refine tk (i := 10) 105 (v := .agg #[.bool true, .bool false]) rfl rfl (by kernel_rfl) (by kernel_rfl) (by kernel_rfl) (fun _ _ _ h => h) (by kernel_rfl) (fun wx h => ex_loadS rfl wx g true false rfl h.2.2) ⟨HO2.out, HB2.out, HG2.out⟩ ?_
              simp only [pt_lit, List.set_cons_succ, List.set_cons_zero]
              refine tk (i := 1) 96 (v := .slice (some ad) q c) rfl rfl (by kernel_rfl) (by kernel_rfl) (by kernel_rfl) (fun _ _ _ h => h) (by kernel_rfl) (fun wx _ => by kernel_rfl) ⟨HO2.out, HB2.out, HG2.out⟩ ?_
              simp only [pt_lit, List.set_cons_succ, List.set_cons_zero]
              refine tk (i := 2) 97 (v := .slice (some ad) q c) rfl rfl (by kernel_rfl) (by kernel_rfl) (by kernel_rfl) (fun _ _ _ h => h) (by kernel_rfl) (fun wx _ => by kernel_rfl) ⟨HO2.out, HB2.out, HG2.out⟩ ?_
              simp only [pt_lit, List.set_cons_succ, List.set_cons_zero]
              refine tk (i := 3) 98 (v := .int .i64 (q : Nat)) rfl rfl (by kernel_rfl) (by kernel_rfl) (by kernel_rfl) (fun _ _ _ h => h) (by kernel_rfl) (fun wx _ => by kernel_rfl) ⟨HO2.out, HB2.out, HG2.out⟩ ?_
              simp only [pt_lit, List.set_cons_succ, List.set_cons_zero]
              refine tk (i := 4) 99 (v := .slice (some ad) q c) rfl rfl (by kernel_rfl) (by kernel_rfl) (by kernel_rfl) (fun _ _ _ h => h) (by kernel_rfl) (fun wx _ => by kernel_rfl) ⟨HO2.out, HB2.out, HG2.out⟩ ?_
              simp only [pt_lit, List.set_cons_succ, List.set_cons_zero]
              refine tk (i := 5) 100 (v := .int .i64 (q : Nat)) rfl rfl (by kernel_rfl) (by kernel_rfl) (by kernel_rfl) (fun _ _ _ h => h) (by kernel_rfl) (fun wx _ => by kernel_rfl) ⟨HO2.out, HB2.out, HG2.out⟩ ?_
              simp only [pt_lit, List.set_cons_succ, List.set_cons_zero]
              refine tk (i := 6) 101 (v := .slice (some ad) q q) rfl rfl (by kernel_rfl) (by kernel_rfl) (by kernel_rfl) (fun _ _ _ h => h) (by kernel_rfl) (fun wx _ => ex_slice3 rfl wx (some ad) q c rfl rfl rfl hc) ⟨HO2.out, HB2.out, HG2.out⟩ ?_
              simp only [pt_lit, List.set_cons_succ, List.set_cons_zero]
              refine tk (i := 7) 102 (v := .int .i64 (k : Nat)) rfl rfl (by kernel_rfl) (by kernel_rfl) (by kernel_rfl) (fun _ _ _ h => h) (by kernel_rfl) (fun wx _ => by kernel_rfl) ⟨HO2.out, HB2.out, HG2.out⟩ ?_
              simp only [pt_lit, List.set_cons_succ, List.set_cons_zero]
              refine rv (i := 8) 103 (v := .slice (some ⟨wc.heap.size, 0, none⟩) 1 1) (w' := wc.drew.alloc (.cells #[.int .i64 (k : Nat)] 3)) (by kernel_rfl) rfl rfl (by kernel_rfl) (by kernel_rfl) ⟨HO3.out, HB3.out, HG3.out⟩ ?_
              simp only [pt_lit, List.set_cons_succ, List.set_cons_zero]
              refine r_app1 (i := 9) 104 (by kernel_rfl) rfl rfl (by kernel_rfl) (s := .tmp 101) (x := .tmp 103) rfl rfl (some ad) (ints way) wc.heap.size (k : Nat) (by rw [HLEN.out]; rfl) rfl (by rw [HLEN.out]; exact HR3.out) ((Blk.new wc.drew 3 #[.int .i64 (k : Nat)]).cell 0) (by rw [HLEN.out]; omega) (fun h => by cases h) ?_
              intro v4 w4 hr4 hb4
              rw [← ints_snoc] at hr4
              obtain ⟨A4, c4, rfl, hl4, hC4⟩ := Kd.R_reads hr4
              have HO4 := Aside0.mk (HO3.out.later hb4)
              have HG4 := Aside0.mk (HG3.out.later hb4)
              have HC4 := Aside0.mk (HC3.out.later hb4)
              have HB4 := Aside0.mk (below_then HB3.out HB3.out.size hb4)
              refine ⟨⟨HO4.out, HB4.out, HG4.out⟩, ?_⟩
              simp only [pt_lit, List.set_cons_succ, List.set_cons_zero]
              refine rc (i := 11) 106 (f := 57) (args := #[.slice A4 (ints (way ++ [k])).length c4, .agg #[.bool true, .bool false], .pointer (some ⟨ga, 0, none⟩), .pointer (some ⟨gl, 0, none⟩), .pointer (some ⟨gd, 0, none⟩), .pointer (some ⟨go, 0, none⟩)]) (by kernel_rfl) rfl rfl (by kernel_rfl) (by kernel_rfl) ?_
              refine (IH.out (way ++ [k]) (true, false) A4 c4 _ (by rw [List.length_append, List.length_singleton]; have h1 := HL.out; have h2 := HWQ.out; omega) (by rw [List.length_append, List.length_singleton]; omega) (fun x hx => by rcases List.mem_append.1 hx with h | h; exact HX.out x h; rw [List.mem_singleton.1 h]; exact hkn) HO4.out hC4 hl4).mono ?_
              rw [HRO.out]
              clear hr4 hC4 hl4
              cases ro with
              | none =>
                rintro e w5 ⟨rfl, hb5⟩
                have HN1 := Aside0.mk (HNN.out HGK.out)
                have HO5 := Aside0.mk (HO4.out.later hb5)
                have HG5 := Aside0.mk (HG4.out.later hb5)
                have HC5 := Aside0.mk (HC4.out.later hb5)
                have HB5 := Aside0.mk (below_then HB4.out HB4.out.size hb5)
                refine ⟨_, rfl, ⟨HO5.out, HB5.out, HG5.out⟩, ?_⟩
                clear hb5 hb4 HNN HNS
                simp only [pt_lit, List.set_cons_succ, List.set_cons_zero]
                refine rv (i := 12) 13 (v := .slice none 0 0) (w' := w5) (by kernel_rfl) rfl rfl (by kernel_rfl) (by kernel_rfl) ⟨HO5.out, HB5.out, HG5.out⟩ ?_
                simp only [pt_lit, List.set_cons_succ, List.set_cons_zero]
                refine wpAnyH_done (by kernel_rfl) ?_ _
                go_wp2_with fail
                go_roundw
                case rel => exact ⟨k + 1, by omega, by go_num, HN1, HB5, HC5⟩
                case measure => simp [intOf]; omega
              | some res =>
                rintro e w5 ⟨A5, c5, rfl, hl5, hC5, hb5⟩
                have HF := Aside0.mk (HSH.out.symm.trans (HNS.out res HGK.out))
                have HO5 := Aside0.mk (HO4.out.later hb5)
                have HG5 := Aside0.mk (HG4.out.later hb5)
                have HB5 := Aside0.mk (below_then HB4.out HB4.out.size hb5)
                have HC5 := Aside0.mk hC5
                have HL5 := Aside0.mk hl5
                refine ⟨_, rfl, ⟨HO5.out, HB5.out, HG5.out⟩, ?_⟩
                clear hb5 hC5 hb4 hl5 HNN HNS
                simp only [pt_lit, List.set_cons_succ, List.set_cons_zero]
                refine rv (i := 12) 13 (v := .slice (some A5) (ints res).length c5) (w' := w5) (by kernel_rfl) rfl rfl (by kernel_rfl) (by kernel_rfl) ⟨HO5.out, HB5.out, HG5.out⟩ ?_
                simp only [pt_lit, List.set_cons_succ, List.set_cons_zero]
                refine wpAnyH_done (by kernel_rfl) ?_ _
                go_wp2_with fail
                go_ret
                rw [HF.out]
                exact ⟨A5, c5, rfl, HL5.out, HC5.out, HB5.out⟩
            · go_wp2_with fail
              refine HCC.out.mono ?_
              rintro e w2 ⟨rfl, rfl⟩
              go_wp2_with fail
              have hd0 : Below wc.heap.size wc wc.drew := below_drew (Below.refl _ _)
              have HO2 := Aside0.mk (HOc.out.later hd0)
              have HB2 := Aside0.mk (below_drew HBT.out)
              have HG2 := Aside0.mk (HBN.out.later hd0)
              have HC2 := Aside0.mk (HBC2.out.later hd0)
              have hb23 : Below wc.drew.heap.size wc.drew (wc.drew.alloc (.cells #[.int .i64 (k : Nat)] 3)) := below_alloc (Below.refl _ _) _
              have HO3 := Aside0.mk (HO2.out.later hb23)
              have HB3 := Aside0.mk (below_then HB2.out HB2.out.size hb23)
              have HG3 := Aside0.mk (HG2.out.later hb23)
              have HC3 := Aside0.mk (HC2.out.later hb23)
              have HR3 := Aside0.mk (Kd.C_below HR.out HB3.out)
              clear hb23 hd0
              refine wp_region_held (S := fun wx => CycB wx ga gl gd go gm n long odd fs R ∧ Below w.heap.size w wx ∧ Blk wx g 73 #[.bool true, .bool true]) (by kernel_rfl) ?_
              refine tk (i := 0) 95 (v := .func (.func 57) #[] #[.pointer (some ⟨ga, 0, none⟩), .pointer (some ⟨gl, 0, none⟩), .pointer (some ⟨gd, 0, none⟩), .pointer (some ⟨go, 0, none⟩)]) rfl rfl (by kernel_rfl) (by kernel_rfl) (by kernel_rfl) (fun _ _ _ h => h) (by kernel_rfl) (fun wx h => ex_load1 rfl wx ⟨go, 0, none⟩ _ rfl (h.1.bo.cell 0) (fun w => by kernel_rfl)) ⟨HO2.out, HB2.out, HG2.out⟩ ?_
              simp only [pt_lit, List.set_cons_succ, List.set_cons_zero]
              refine tk (i := 10) 105 (v := .agg #[.bool true, .bool true]) rfl rfl (by kernel_rfl) (by kernel_rfl) (by kernel_rfl) (fun _ _ _ h => h) (by kernel_rfl) (fun wx h => ex_loadS rfl wx g true true rfl h.2.2) ⟨HO2.out, HB2.out, HG2.out⟩ ?_
              simp only [pt_lit, List.set_cons_succ, List.set_cons_zero]
              refine tk (i := 1) 96 (v := .slice (some ad) q c) rfl rfl (by kernel_rfl) (by kernel_rfl) (by kernel_rfl) (fun _ _ _ h => h) (by kernel_rfl) (fun wx _ => by kernel_rfl) ⟨HO2.out, HB2.out, HG2.out⟩ ?_
              simp only [pt_lit, List.set_cons_succ, List.set_cons_zero]
              refine tk (i := 2) 97 (v := .slice (some ad) q c) rfl rfl (by kernel_rfl) (by kernel_rfl) (by kernel_rfl) (fun _ _ _ h => h) (by kernel_rfl) (fun wx _ => by kernel_rfl) ⟨HO2.out, HB2.out, HG2.out⟩ ?_
              simp only [pt_lit, List.set_cons_succ, List.set_cons_zero]
              refine tk (i := 3) 98 (v := .int .i64 (q : Nat)) rfl rfl (by kernel_rfl) (by kernel_rfl) (by kernel_rfl) (fun _ _ _ h => h) (by kernel_rfl) (fun wx _ => by kernel_rfl) ⟨HO2.out, HB2.out, HG2.out⟩ ?_
              simp only [pt_lit, List.set_cons_succ, List.set_cons_zero]
              refine tk (i := 4) 99 (v := .slice (some ad) q c) rfl rfl (by kernel_rfl) (by kernel_rfl) (by kernel_rfl) (fun _ _ _ h => h) (by kernel_rfl) (fun wx _ => by kernel_rfl) ⟨HO2.out, HB2.out, HG2.out⟩ ?_
              simp only [pt_lit, List.set_cons_succ, List.set_cons_zero]
              refine tk (i := 5) 100 (v := .int .i64 (q : Nat)) rfl rfl (by kernel_rfl) (by kernel_rfl) (by kernel_rfl) (fun _ _ _ h => h) (by kernel_rfl) (fun wx _ => by kernel_rfl) ⟨HO2.out, HB2.out, HG2.out⟩ ?_
              simp only [pt_lit, List.set_cons_succ, List.set_cons_zero]
              refine tk (i := 6) 101 (v := .slice (some ad) q q) rfl rfl (by kernel_rfl) (by kernel_rfl) (by kernel_rfl) (fun _ _ _ h => h) (by kernel_rfl) (fun wx _ => ex_slice3 rfl wx (some ad) q c rfl rfl rfl hc) ⟨HO2.out, HB2.out, HG2.out⟩ ?_
              simp only [pt_lit, List.set_cons_succ, List.set_cons_zero]
              refine tk (i := 7) 102 (v := .int .i64 (k : Nat)) rfl rfl (by kernel_rfl) (by kernel_rfl) (by kernel_rfl) (fun _ _ _ h => h) (by kernel_rfl) (fun wx _ => by kernel_rfl) ⟨HO2.out, HB2.out, HG2.out⟩ ?_
              simp only [pt_lit, List.set_cons_succ, List.set_cons_zero]
              refine rv (i := 8) 103 (v := .slice (some ⟨wc.heap.size, 0, none⟩) 1 1) (w' := wc.drew.alloc (.cells #[.int .i64 (k : Nat)] 3)) (by kernel_rfl) rfl rfl (by kernel_rfl) (by kernel_rfl) ⟨HO3.out, HB3.out, HG3.out⟩ ?_
              simp only [pt_lit, List.set_cons_succ, List.set_cons_zero]
              refine r_app1 (i := 9) 104 (by kernel_rfl) rfl rfl (by kernel_rfl) (s := .tmp 101) (x := .tmp 103) rfl rfl (some ad) (ints way) wc.heap.size (k : Nat) (by rw [HLEN.out]; rfl) rfl (by rw [HLEN.out]; exact HR3.out) ((Blk.new wc.drew 3 #[.int .i64 (k : Nat)]).cell 0) (by rw [HLEN.out]; omega) (fun h => by cases h) ?_
              intro v4 w4 hr4 hb4
              rw [← ints_snoc] at hr4
              obtain ⟨A4, c4, rfl, hl4, hC4⟩ := Kd.R_reads hr4
              have HO4 := Aside0.mk (HO3.out.later hb4)
              have HG4 := Aside0.mk (HG3.out.later hb4)
              have HC4 := Aside0.mk (HC3.out.later hb4)
              have HB4 := Aside0.mk (below_then HB3.out HB3.out.size hb4)
              refine ⟨⟨HO4.out, HB4.out, HG4.out⟩, ?_⟩
              simp only [pt_lit, List.set_cons_succ, List.set_cons_zero]
              refine rc (i := 11) 106 (f := 57) (args := #[.slice A4 (ints (way ++ [k])).length c4, .agg #[.bool true, .bool true], .pointer (some ⟨ga, 0, none⟩), .pointer (some ⟨gl, 0, none⟩), .pointer (some ⟨gd, 0, none⟩), .pointer (some ⟨go, 0, none⟩)]) (by kernel_rfl) rfl rfl (by kernel_rfl) (by kernel_rfl) ?_
              refine (IH.out (way ++ [k]) (true, true) A4 c4 _ (by rw [List.length_append, List.length_singleton]; have h1 := HL.out; have h2 := HWQ.out; omega) (by rw [List.length_append, List.length_singleton]; omega) (fun x hx => by rcases List.mem_append.1 hx with h | h; exact HX.out x h; rw [List.mem_singleton.1 h]; exact hkn) HO4.out hC4 hl4).mono ?_
              rw [HRO.out]
              clear hr4 hC4 hl4
              cases ro with
              | none =>
                rintro e w5 ⟨rfl, hb5⟩
                have HN1 := Aside0.mk (HNN.out HGK.out)
                have HO5 := Aside0.mk (HO4.out.later hb5)
                have HG5 := Aside0.mk (HG4.out.later hb5)
                have HC5 := Aside0.mk (HC4.out.later hb5)
                have HB5 := Aside0.mk (below_then HB4.out HB4.out.size hb5)
                refine ⟨_, rfl, ⟨HO5.out, HB5.out, HG5.out⟩, ?_⟩
                clear hb5 hb4 HNN HNS
                simp only [pt_lit, List.set_cons_succ, List.set_cons_zero]
                refine rv (i := 12) 13 (v := .slice none 0 0) (w' := w5) (by kernel_rfl) rfl rfl (by kernel_rfl) (by kernel_rfl) ⟨HO5.out, HB5.out, HG5.out⟩ ?_
                simp only [pt_lit, List.set_cons_succ, List.set_cons_zero]
                refine wpAnyH_done (by kernel_rfl) ?_ _
                go_wp2_with fail
                go_roundw
                case rel => exact ⟨k + 1, by omega, by go_num, HN1, HB5, HC5⟩
                case measure => simp [intOf]; omega
              | some res =>
                rintro e w5 ⟨A5, c5, rfl, hl5, hC5, hb5⟩
                have HF := Aside0.mk (HSH.out.symm.trans (HNS.out res HGK.out))
                have HO5 := Aside0.mk (HO4.out.later hb5)
                have HG5 := Aside0.mk (HG4.out.later hb5)
                have HB5 := Aside0.mk (below_then HB4.out HB4.out.size hb5)
                have HC5 := Aside0.mk hC5
                have HL5 := Aside0.mk hl5
                refine ⟨_, rfl, ⟨HO5.out, HB5.out, HG5.out⟩, ?_⟩
                clear hb5 hC5 hb4 hl5 HNN HNS
                simp only [pt_lit, List.set_cons_succ, List.set_cons_zero]
                refine rv (i := 12) 13 (v := .slice (some A5) (ints res).length c5) (w' := w5) (by kernel_rfl) rfl rfl (by kernel_rfl) (by kernel_rfl) ⟨HO5.out, HB5.out, HG5.out⟩ ?_
                simp only [pt_lit, List.set_cons_succ, List.set_cons_zero]
                refine wpAnyH_done (by kernel_rfl) ?_ _
                go_wp2_with fail
                go_ret
                rw [HF.out]
                exact ⟨A5, c5, rfl, HL5.out, HC5.out, HB5.out⟩
          · have HN1 := Aside0.mk (HNN.out (by rw [hgk, hct]; rfl))
            rw [hct] at HCC
            clear hgk HNN HNS HGk hct
            cases x1 <;> cases x2
            · cases hz
            all_goals
              go_wp2_with fail
              refine HCC.out.mono ?_
              rintro e w2 ⟨rfl, rfl⟩
              go_wp2_with fail
              go_roundw
              case rel => exact ⟨k + 1, by omega, by go_num, HN1, HBT, HBC2⟩
              case measure => simp [intOf]; omega
    · obtain rfl : n = k := by omega
      have HF := Aside0.mk (HSH.out.symm.trans (noneTo_all (by rw [List.length_range]; exact HN.out)))
      go_wp2_with fail
      go_ret
      rw [HF.out]
      exact ⟨rfl, HB.out⟩
end Go.Proofs.YtijaefmaceolbaaDoor.Im

namespace Go.Proofs.YtijaefmaceolbaaDoor.Im
open Go.RowKit Go.Proofs.YtijaefmaceolbaaDoorW.PrintWords Go.Proofs.YtijaefmaceolbaaDoorW.PrintLast Go.Proofs.YtijaefmaceolbaaDoorW.PrintMore Go.Proofs.YtijaefmaceolbaaDoor.Tr
set_option linter.unusedVariables false
set_option linter.unusedSimpArgs false
theorem cyc1_any (ga gl gd go gm n long : Nat) (odd : Bool) (fs : List Fm) (R : Nat → Nat) (n10 : n ≤ 10) (hlong : long ≤ 10) : ∀ (d : Nat) (way : List Nat) (can : Bool × Bool) (A : Option Addr) (c : Nat) (w : World), way.length + d = long → 1 ≤ way.length → (∀ x ∈ way, x < n) → CycB w ga gl gd go gm n long odd fs R → Kd.C (Kd.int .i64) w A (ints way).length (ints way) → (ints way).length ≤ c →
      Calls Tryd.prog 57 #[.slice A (ints way).length c, .agg #[.bool can.1, .bool can.2], .pointer (some ⟨ga, 0, none⟩), .pointer (some ⟨gl, 0, none⟩), .pointer (some ⟨gd, 0, none⟩), .pointer (some ⟨go, 0, none⟩)] w (FoundP w (cyc (sgF fs) n odd d way can))
  | 0, way, can, A, c, w, hl, h1, hx, hO, hr, hc => cyc1_zero ga gl gd go gm n long odd fs R n10 hlong way can A c w hl h1 hx hO hr hc
  | d + 1, way, can, A, c, w, hl, h1, hx, hO, hr, hc => cyc1_succ ga gl gd go gm n long odd fs R n10 hlong way can A c w d (cyc1_any ga gl gd go gm n long odd fs R n10 hlong d) hl h1 hx hO hr hc
def FoundE (w : World) (r : Option (List Nat) × Int) (e : Ending) (w' : World) : Prop :=
  match r.1 with
  | some l => ∃ A c, e = .returned (.tuple #[.slice (some A) (ints l).length c, .int .i64 r.2]) ∧ (ints l).length ≤ c ∧ Kd.C (Kd.int .i64) w' (some A) (ints l).length (ints l) ∧ Below w.heap.size w w'
  | none => e = .returned (.tuple #[.slice none 0 0, .int .i64 r.2]) ∧ Below w.heap.size w w'
def findO : Option (List Nat) → Option (List Nat) × Int
  | some l => (some l, 0)
  | none => (none, 10)
def cycleO (l : List (List UInt8)) (odd : Bool) : Option (List Nat) × Int := if sysE l = 0 then findO (cycO (sgF (sysF l)) l.length odd) else (none, sysE l)
set_option maxHeartbeats 3200000 in
set_option maxRecDepth 100000 in
theorem cycle_call (l : List (List UInt8)) (odd : Bool) (w : World) (A : Option Addr) (c : Nat) (hr : Kd.C Kd.string w A l.length (l.map strL)) :
    Calls Tryd.prog 18 #[.slice A l.length c, .bool odd] w (FoundE w (cycleO l odd)) := by
  have hmf : ∀ (fn : Fn) (first cap : Array Value) (w : World), (Instr.makeFunc fn first cap).run Tryd.prog w = .ok (.func fn first cap) w := fun _ _ _ _ => rfl
  have hsf := fun (a : Addr) (c : Array Value) (w : World) => run_store Tryd.prog w a (.func (.func 57) #[] c) .plain rfl
  have qn : ∀ (w : World) (a : Option Addr) (n c n' c' : Nat), (binOp .neq 25 (.slice a n c) (.slice none n' c')).run Tryd.prog w = .ok (.bool (!a.isNone)) w := fun w a n c n' c' => run_neq_slice_nil_any w _ _ a n c n' c' Tryd.underlying25
  have hb0 : Below w.heap.size w (w.alloc (.cells #[.bool odd] 4)) := below_alloc (Below.refl _ _) _
  have HB0 := Aside0.mk hb0
  have HD0 := Aside0.mk (Blk.new w 4 #[.bool odd])
  by_cases h0 : sysE l = 0
  · have S := sys_ok h0
    have HO := Aside0.mk (of_good h0 (w.alloc (.cells #[.bool odd] 4)) A c (Kd.C_below hr hb0))
    obtain ⟨RR, hRR⟩ : ∃ RR, cycO (sgF (sysF l)) l.length odd = RR := ⟨_, rfl⟩
    have hcl : cycleO l odd = findO RR := by unfold cycleO; rw [if_pos h0, hRR]
    rw [hcl]
    have HR := Aside0.mk (hRR.symm)
    have n10 := S.n10
    have HS := Aside0.mk S
    obtain ⟨n, hn⟩ : ∃ n, l.length = n := ⟨_, rfl⟩
    rw [hn] at HO HS HR n10 ⊢
    have HA := Aside0.mk (fun (w1 : World) (A : Option Addr) (c : Nat) (hC : Kd.C kF w1 A n (sysF l)) (hc : n ≤ c) => arcs_any HS.out w1 A c hC hc)
    clear hr S h0 hn hRR hcl hb0 HS
    generalize sysF l = fs at *
    go_enter Tryd.func18, Tryd.ntmps18
    go_wp2_with (first | (go_at_call 40; refine HO.out.mono ?_; rintro e w1 ⟨A1, c1, hc1, rfl, hC, hb⟩; have HC := Aside0.mk hC; have HB := Aside0.mk (below_then HB0.out HB0.out.size hb); have HD := Aside0.mk (HD0.out.later hb); have HCC := Aside0.mk hc1; clear hC hb hc1) | (go_at_call 41; refine (HA.out _ _ _ HC.out HCC.out).mono ?_; rintro e w2 ⟨gm, R, rfl, hM, hb⟩; have HM := Aside0.mk hM; have HB2 := Aside0.mk (below_then HB.out HB.out.size hb); have HD2 := Aside0.mk (HD.out.later hb); clear hM hb))
    have n0 : (0 : Int) ≤ (n : Int) := by omega
    have HBA := Aside0.mk (Blk.new w2 57 #[.slice (some ⟨gm, 0, none⟩) n n])
    have HB3 := Aside0.mk (below_alloc HB2.out (.cells #[.slice (some ⟨gm, 0, none⟩) n n] 57))
    have HD3 := Aside0.mk (HD2.out.alloc (.cells #[.slice (some ⟨gm, 0, none⟩) n n] 57))
    have HM3 := Aside0.mk (HM.out.later (below_alloc (Below.refl _ _) (.cells #[.slice (some ⟨gm, 0, none⟩) n n] 57)))
    have hsz : (w2.alloc (.cells #[.slice (some ⟨gm, 0, none⟩) n n] 57)).heap.size = w2.heap.size + 1 := by simp
    clear HB2 HD2 HM HB HD HB0 HD0 HO HA HC HCC
    generalize w2.alloc (.cells #[.slice (some ⟨gm, 0, none⟩) n n] 57) = W2 at *
    go_loopg [9] 11 (fun kq v wr => ∃ (q gl : Nat), kq + q = 11 ∧ v = .pointer (some ⟨gl, 0, none⟩) ∧ Aside0 (Blk wr gl 3 #[.int .i64 (q + 1 : Nat)]) ∧ Aside0 (Blk wr w2.heap.size 57 #[.slice (some ⟨gm, 0, none⟩) n n]) ∧ Aside0 (Blk wr w.heap.size 4 #[.bool odd]) ∧ Aside0 (ArcM n fs gm R wr) ∧ Aside0 (Below w.heap.size w wr) ∧ Aside0 (q ≤ n) ∧ Aside0 (noneTo (List.range n) (fun k => cycL (sgF fs) n odd (k + 1)) q))
    case atStart => exact ⟨0, w2.heap.size + 1, rfl, rfl, ⟨by have h1 := Blk.new W2 3 #[.int .i64 1]; rw [hsz] at h1; simpa using h1⟩, ⟨HBA.out.alloc _⟩, ⟨HD3.out.alloc _⟩, ⟨HM3.out.later (below_alloc (Below.refl _ _) _)⟩, ⟨below_alloc HB3.out _⟩, ⟨Nat.zero_le _⟩, ⟨noneTo_zero _ _⟩⟩
    case round =>
      clear HBA HB3 HD3 HM3 hsz
      obtain ⟨q, gl, hq, rfl, HG, HBa, HDx, HMx, HBx, HQN, HN⟩ := hrel
      have cl := HG.out.cell 0
      simp only [List.getElem?_toArray, List.getElem?_cons_zero] at cl
      by_cases hqn : q < n
      · have hqn' : (q : Int) + 1 ≤ n := by omega
        have HNN := Aside0.mk (fun h => noneTo_succ HN.out (by rw [List.length_range]; exact hqn) h)
        have HNS := Aside0.mk (fun r h => noneTo_some (r := r) HN.out (by rw [List.length_range]; exact hqn) h)
        simp only [List.getElem_range] at HNN HNS
        obtain ⟨k1, rfl⟩ : ∃ k1, gk = k1 + 1 := ⟨gk - 1, by omega⟩
        have ha1 : Below wr.heap.size wr (wr.alloc (.cells #[.func (.func 57) #[] #[.pointer (some ⟨w2.heap.size, 0, none⟩), .pointer (some ⟨gl, 0, none⟩), .pointer (some ⟨w.heap.size, 0, none⟩), .pointer (some ⟨wr.heap.size, 0, none⟩)]] 71)) := below_alloc (Below.refl _ _) _
        have HOB : Aside0 (CycB (wr.alloc (.cells #[.func (.func 57) #[] #[.pointer (some ⟨w2.heap.size, 0, none⟩), .pointer (some ⟨gl, 0, none⟩), .pointer (some ⟨w.heap.size, 0, none⟩), .pointer (some ⟨wr.heap.size, 0, none⟩)]] 71)) w2.heap.size gl w.heap.size wr.heap.size gm n (q + 1) odd fs R) :=
          ⟨⟨HBa.out.alloc _, HMx.out.later ha1, HG.out.alloc _, HDx.out.alloc _, Blk.new _ _ _⟩⟩
        have HB3 := Aside0.mk (below_then HBx.out HBx.out.size ha1)
        clear ha1 HG HBa HDx HMx HBx
        go_wp2_with fail
        generalize wr.alloc (.cells #[.func (.func 57) #[] #[.pointer (some ⟨w2.heap.size, 0, none⟩), .pointer (some ⟨gl, 0, none⟩), .pointer (some ⟨w.heap.size, 0, none⟩), .pointer (some ⟨wr.heap.size, 0, none⟩)]] 71) = W0 at *
        generalize wr.heap.size = gB at *
        generalize w2.heap.size = gA at *
        go_loopw [32] (fun v wx => ∃ i : Nat, i ≤ n ∧ v = .int .i64 (i : Int) ∧ Aside0 (noneTo (List.range n) (fun i => cyc (sgF fs) n odd q [i] (true, false)) i) ∧ Aside0 (Below W0.heap.size W0 wx)) (fun v _ => n - (intOf v).toNat)
        case atStart => exact ⟨0, Nat.zero_le _, rfl, ⟨noneTo_zero _ _⟩, ⟨Below.refl _ _⟩⟩
        case round =>
          obtain ⟨i, hi, rfl, HNi, HBx⟩ := hrel
          by_cases him : i < n
          · have HN1 := Aside0.mk (fun h => noneTo_succ HNi.out (by rw [List.length_range]; exact him) h)
            have HN2 := Aside0.mk (fun r h => noneTo_some (r := r) HNi.out (by rw [List.length_range]; exact him) h)
            simp only [List.getElem_range] at HN1 HN2
            have hOx := HOB.out.later HBx.out
            have co : wr.cell? ⟨gB, 0, none⟩ = some (.func (.func 57) #[] #[.pointer (some ⟨gA, 0, none⟩), .pointer (some ⟨gl, 0, none⟩), .pointer (some ⟨w.heap.size, 0, none⟩), .pointer (some ⟨gB, 0, none⟩)]) := hOx.bo.cell 0
            have hbx2 : Below wr.heap.size wr (wr.alloc (.cells #[.int .i64 (i : Nat)] 3)) := below_alloc (Below.refl _ _) _
            have hC : Kd.C (Kd.int .i64) (wr.alloc (.cells #[.int .i64 (i : Nat)] 3)) (some ⟨wr.heap.size, 0, none⟩) (ints [i]).length (ints [i]) := C_one wr i
            have HCall := Aside0.mk (cyc1_any gA gl w.heap.size gB gm n (q + 1) odd fs R n10 (by omega) q [i] (true, false) (some ⟨wr.heap.size, 0, none⟩) 1 _ (by simp; omega) (by simp) (fun x hx => by rw [List.mem_singleton.1 hx]; omega) (hOx.later hbx2) hC (by simp [ints]))
            have HBy := Aside0.mk (below_then HBx.out HBx.out.size hbx2)
            obtain ⟨ro, hro⟩ : ∃ ro, cyc (sgF fs) n odd q [i] (true, false) = ro := ⟨_, rfl⟩
            rw [hro] at HCall HN1 HN2
            clear hbx2 hC hOx hro
            go_wp2_with fail
            refine HCall.out.mono ?_
            cases ro with
            | none =>
              rintro e w5 ⟨rfl, hb5⟩
              have HB5 := Aside0.mk (below_then HBy.out HBy.out.size hb5)
              have HN3 := Aside0.mk (HN1.out rfl)
              clear hb5
              go_wp2_with fail
              go_roundw
              case rel => exact ⟨i + 1, by omega, by go_num, HN3, HB5⟩
              case measure => simp [intOf]; omega
            | some res =>
              rintro e w5 ⟨A5, c5, rfl, hl5, hC5, hb5⟩
              have HB5 := Aside0.mk (below_then HBy.out HBy.out.size hb5)
              have HF := Aside0.mk (HR.out.trans (HNS.out res (HN2.out res rfl)))
              have HC5 := Aside0.mk hC5
              have HL5 := Aside0.mk hl5
              clear hb5 hC5 hl5
              go_wp2_with fail
              go_ret2
              rw [HF.out]
              exact ⟨A5, c5, rfl, HL5.out, HC5.out, below_then HB3.out HB3.out.size HB5.out⟩
          · obtain rfl : i = n := by omega
            have hN0 : cycL (sgF fs) i odd (q + 1) = none := by
              have := HNi.out
              have h2 := noneTo_all (l := List.range i) (g := fun j => cyc (sgF fs) i odd q [j] (true, false)) (by rw [List.length_range]; exact this)
              exact h2
            have HNq := Aside0.mk (HNN.out hN0)
            have HOx := Aside0.mk (HOB.out.later HBx.out)
            have cg : wr.cell? ⟨gl, 0, none⟩ = some (.int .i64 (q + 1 : Nat)) := HOx.out.bl.cell 0
            have HB6 := Aside0.mk (below_then HB3.out HB3.out.size HBx.out)
            clear hN0
            go_wp2_with fail
            go_roundg k1
            case measure => omega
            case rel => exact ⟨q + 1, wr.heap.size, by omega, rfl, ⟨by have := Blk.new wr 3 #[.int .i64 (q + 1 + 1 : Nat)]; have e : ((q + 1 + 1 : Nat) : Int) = (q : Int) + 1 + 1 := (by omega); rw [e] at this; exact this⟩, ⟨HOx.out.ba.alloc _⟩, ⟨HOx.out.bd.alloc _⟩, ⟨HOx.out.M.later (below_alloc (Below.refl _ _) _)⟩, ⟨below_alloc HB6.out _⟩, ⟨by omega⟩, HNq⟩
      · have hqn' : ¬ ((q : Int) + 1 ≤ n) := by omega
        have HF := Aside0.mk (show RR = none by
          have h1 := HN.out
          have h2 : q = (List.range n).length := by rw [List.length_range]; have := HQN.out; omega
          rw [h2] at h1
          exact HR.out.trans (noneTo_all h1))
        go_wp2_with fail
        go_ret2
        rw [HF.out]
        exact ⟨rfl, HBx.out⟩
  · have HR := Aside0.mk (show cycleO l odd = (none, sysE l) by unfold cycleO; rw [if_neg h0])
    have HO := Aside0.mk (of_bad h0 (w.alloc (.cells #[.bool odd] 4)) A c (Kd.C_below hr hb0))
    have hne : (sysE l != 0) = true := bne_iff_ne.2 h0
    clear h0 hr hb0
    generalize sysE l = x at *
    go_enter Tryd.func18, Tryd.ntmps18
    go_wp2_with (first | (go_at_call 40; refine HO.out.mono ?_; rintro e w1 ⟨rfl, hb⟩; have HB := Aside0.mk (below_then HB0.out HB0.out.size hb); clear hb))
    go_ret2
    rw [HR.out]
    exact ⟨rfl, HB.out⟩
end Go.Proofs.YtijaefmaceolbaaDoor.Im

namespace Go.Proofs.YtijaefmaceolbaaDoor.Im
open Go.RowKit Go.Proofs.YtijaefmaceolbaaDoorW.PrintWords Go.Proofs.YtijaefmaceolbaaDoorW.PrintLast Go.Proofs.YtijaefmaceolbaaDoorW.PrintMore Go.Proofs.YtijaefmaceolbaaDoor.Tr
set_option linter.unusedVariables false
set_option linter.unusedSimpArgs false
theorem C_s1 (w : World) (a : List UInt8) : Kd.C Kd.string (w.alloc (.cells #[.string (strL a)] 9)) (some ⟨w.heap.size, 0, none⟩) [a].length ([a].map strL) := by
  have h1 : (w.alloc (.cells #[.string (strL a)] 9)).ownsRow w.heap.size 9 1 (.slice (some ⟨w.heap.size, 0, none⟩) 1 1) [strL a].length (encs Value.string [strL a]) :=
    ⟨rfl, .inr ⟨w.heap.size, 1, #[.string (strL a)], rfl, Nat.le_refl _, Blk.new w 9 _, by simp, by decide, rfl, rfl⟩⟩
  have h2 : Kd.R Kd.string 9 (w.alloc (.cells #[.string (strL a)] 9)) w.heap.size (fun _ => True) (.slice (some ⟨w.heap.size, 0, none⟩) 1 1) [strL a] := Kd.R_of_own h1 (fun _ _ => trivial)
  obtain ⟨A, c, e, _, hC⟩ := Kd.R_reads h2
  injection e with e1
  rw [← e1] at hC
  exact hC
theorem C_s2 (w : World) (a b : List UInt8) : Kd.C Kd.string (w.alloc (.cells #[.string (strL a), .string (strL b)] 9)) (some ⟨w.heap.size, 0, none⟩) [a, b].length ([a, b].map strL) := by
  have h1 : (w.alloc (.cells #[.string (strL a), .string (strL b)] 9)).ownsRow w.heap.size 9 1 (.slice (some ⟨w.heap.size, 0, none⟩) 2 2) [strL a, strL b].length (encs Value.string [strL a, strL b]) :=
    ⟨rfl, .inr ⟨w.heap.size, 2, #[.string (strL a), .string (strL b)], rfl, Nat.le_refl _, Blk.new w 9 _, by simp, by decide, rfl, rfl⟩⟩
  have h2 : Kd.R Kd.string 9 (w.alloc (.cells #[.string (strL a), .string (strL b)] 9)) w.heap.size (fun _ => True) (.slice (some ⟨w.heap.size, 0, none⟩) 2 2) [strL a, strL b] := Kd.R_of_own h1 (fun _ _ => trivial)
  obtain ⟨A, c, e, _, hC⟩ := Kd.R_reads h2
  injection e with e1
  rw [← e1] at hC
  exact hC
theorem C_i2 (w : World) (i j : Nat) : Kd.C (Kd.int .i64) (w.alloc (.cells #[.int .i64 (i : Nat), .int .i64 (j : Nat)] 3)) (some ⟨w.heap.size, 0, none⟩) (ints [i, j]).length (ints [i, j]) := by
  have h1 : (w.alloc (.cells #[.int .i64 (i : Nat), .int .i64 (j : Nat)] 3)).ownsRow w.heap.size 3 1 (.slice (some ⟨w.heap.size, 0, none⟩) 2 2) (ints [i, j]).length (encs (Value.int .i64) (ints [i, j])) :=
    ⟨rfl, .inr ⟨w.heap.size, 2, #[.int .i64 (i : Nat), .int .i64 (j : Nat)], rfl, Nat.le_refl _, Blk.new w 3 _, by simp [ints], by decide, rfl, rfl⟩⟩
  have h2 : Kd.R (Kd.int .i64) 3 (w.alloc (.cells #[.int .i64 (i : Nat), .int .i64 (j : Nat)] 3)) w.heap.size (fun _ => True) (.slice (some ⟨w.heap.size, 0, none⟩) 2 2) (ints [i, j]) := Kd.R_of_own h1 (fun _ _ => trivial)
  obtain ⟨A, c, e, _, hC⟩ := Kd.R_reads h2
  injection e with e1
  rw [← e1] at hC
  exact hC
theorem liar_E : sysE [[33, 97]] = 0 := by decide
theorem liar_F : sysF [[33, 97]] = [.neg (.lt 0)] := by decide
theorem pair_E : sysE [[33, 98], [33, 97]] = 0 := by decide
theorem pair_F : sysF [[33, 98], [33, 97]] = [.neg (.lt 1), .neg (.lt 0)] := by decide
theorem la_E : sysE [[33, 97], [49]] = 0 := by decide
theorem la_F : sysF [[33, 97], [49]] = [.neg (.lt 0), .con true] := by decide
theorem k_least : leastO [[33, 97], [49]] = (⟨#[63, 49]⟩, 0) := by
  unfold leastO
  rw [la_E, la_F]
  rfl
theorem k_first : firstO [[33, 98], [33, 97]] = (⟨#[48, 49]⟩, 0) := by
  unfold firstO
  rw [pair_E, pair_F]
  have : (valsB base2 ([[33, 98], [33, 97]] : List (List UInt8)).length).find? (fixB [.neg (.lt 1), .neg (.lt 0)]) = some [some false, some true] := by decide
  rw [this]
  rfl
theorem k_core : coreO [[33, 97]] = ([0], 0) := by
  have hb : Bad [.neg (.lt 0)] 1 1 := by
    refine ⟨by decide, by decide, ?_, ?_⟩
    · intro i hi hs j hj
      obtain rfl : i = 0 := by omega
      have : (0 == j) = true := hj
      rw [beq_iff_eq] at this
      subst this
      rfl
    · rintro ⟨v, _, h⟩
      have := h 0 (by decide) rfl
      have h2 : some (!(v 0)) = some (v 0) := this
      cases hv : v 0 <;> rw [hv] at h2 <;> cases h2
  have hm : ∀ s, MinBad [.neg (.lt 0)] 1 s → s = 1 := fun s h => by
    have h1 := h.1.1
    have h2 := h.1.2.1
    omega
  have hc : IsCore 1 [.neg (.lt 0)] [0] := by
    refine ⟨1, ⟨hb, fun b hbb _ => ?_⟩, by decide, fun s' hs' => ?_⟩
    · have h1 := hbb.1
      have h2 := hbb.2.1
      omega
    · rw [hm s' hs']
      decide
  unfold coreO
  rw [if_pos liar_E, liar_F]
  show (match coreV 1 [.neg (.lt 0)] with | some c => ((c, 0) : List Nat × Int) | none => ([], 10)) = _
  rw [coreV_some hc]
theorem k_revise : reviseO [[33, 97]] ⟨#[48]⟩ = (0, 2, 0) := by
  have hr : IsRep [.neg (.lt 0)] [some false] 0 2 := by
    refine ⟨by decide, by decide, fun a b hab hb => ?_⟩
    obtain rfl : a = 0 := by omega
    obtain rfl : b = 1 := by omega
    decide
  have S : Tr.Sys 1 (sysF [[33, 97]]) := sys_ok liar_E
  rw [liar_F] at S
  have hu := (rep_spec S (v := [some false]) rfl (by intro x hx; simp at hx; subst hx; decide)).unique hr
  unfold reviseO
  rw [if_pos liar_E, liar_F, if_pos (by decide)]
  have e : vsOf ⟨#[48]⟩ = [some false] := by decide
  rw [e, hu.1, hu.2]
  rfl
theorem k_cycle : cycleO [[33, 98], [33, 97]] false = (some [0, 1], 0) := by
  unfold cycleO
  rw [if_pos pair_E, pair_F]
  have : cycO (sgF [.neg (.lt 1), .neg (.lt 0)]) ([[33, 98], [33, 97]] : List (List UInt8)).length false = some [0, 1] := by decide
  rw [this]
  rfl
end Go.Proofs.YtijaefmaceolbaaDoor.Im

namespace Go.Proofs.YtijaefmaceolbaaDoor.Im
open Go.RowKit Go.Proofs.YtijaefmaceolbaaDoorW.PrintWords Go.Proofs.YtijaefmaceolbaaDoorW.PrintLast Go.Proofs.YtijaefmaceolbaaDoorW.PrintMore Go.Proofs.YtijaefmaceolbaaDoor.Tr
set_option linter.unusedVariables false
set_option linter.unusedSimpArgs false
theorem same_l0 (xs : List Int) (hx : xs.length < 1000000) : ∀ (d i : Nat), i + d = xs.length → Gives (fun k => pomadelaw01_same.l0 k xs xs i) true
  | 0, i, h => Gives.now fun k => by
    simp only [pomadelaw01_same.l0]
    rw [if_neg (by omega)]
  | d + 1, i, h => (same_l0 xs hx d (i + 1) (by omega)).step fun k hk => by
    simp only [pomadelaw01_same.l0]
    rw [if_pos (by omega), if_pos (by omega), if_pos (by omega), if_pos trivial, wr_succ i (by omega), hk]
theorem same_g (xs : List Int) (hx : xs.length < 1000000) : Gives (fun k => pomadelaw01_same.f k xs xs) true :=
  (same_l0 xs hx xs.length 0 (by omega)).map fun k hk => by
    simp only [pomadelaw01_same.f]
    rw [if_pos trivial]; exact hk
theorem same_any (xs : List Int) (A B : Option Addr) (c d : Nat) (w : World) (hx : xs.length < 1000000) (hA : Kd.C (Kd.int .i64) w A xs.length xs) (hc : xs.length ≤ c) (hB : Kd.C (Kd.int .i64) w B xs.length xs) (hd : xs.length ≤ d) :
    Calls Tryd.prog 17 #[.slice A xs.length c, .slice B xs.length d] w fun e w' => e = .returned (.bool true) ∧ Below w.heap.size w w' := by
  obtain ⟨k0, hk0⟩ := same_g xs hx
  exact (pomadelaw01_same.calls k0 A c xs B d xs true w hA hc hB hd (hk0 k0 (Nat.le_refl _))).mono fun e w' ⟨h1, h2⟩ => ⟨h1, h2.below⟩
def fewB (l : List ByteArray) : Bool := decide (l.length ≤ 20) && l.all fun s => decide (s.size ≤ 100)
theorem few_l0 (l : List ByteArray) : ∀ (d i : Nat), i + d = l.length → i ≤ 20 → Gives (fun k => pomadelaw01_few.l0 k l i) (decide (l.length ≤ 20) && (l.drop i).all fun s => decide (s.size ≤ 100))
  | 0, i, h, hi => Gives.now fun k => by
    simp only [pomadelaw01_few.l0]
    rw [if_neg (by omega), decide_eq_true (by omega), List.drop_of_length_le (by omega)]
    rfl
  | d + 1, i, h, hi => by
    by_cases h20 : i = 20
    · exact Gives.now fun k => by
        simp only [pomadelaw01_few.l0]
        rw [if_pos (by omega), if_pos (by omega), decide_eq_false (by omega)]
        rfl
    · have hr : rdOf ByteArray.empty l (i : Int) = l[i]'(by omega) := by
        have : i < l.length := by omega
        simp [rdOf, this]
      have hd : (l.drop i).all (fun s => decide (s.size ≤ 100)) = (decide ((l[i]'(by omega)).size ≤ 100) && (l.drop (i + 1)).all fun s => decide (s.size ≤ 100)) := by
        rw [List.drop_eq_getElem_cons (by omega : i < l.length), List.all_cons]
      by_cases hs : (l[i]'(by omega)).size ≤ 100
      · rw [hd, decide_eq_true hs, Bool.true_and]
        exact (few_l0 l d (i + 1) (by omega) (by omega)).step fun k hk => by
          simp only [pomadelaw01_few.l0]
          rw [if_pos (by omega), if_neg (by omega), if_pos (by omega), hr, if_neg (by omega), wr_succ i (by omega), hk]
      · rw [hd, decide_eq_false hs]
        exact Gives.now fun k => by
          simp only [pomadelaw01_few.l0]
          rw [if_pos (by omega), if_neg (by omega), if_pos (by omega), hr, if_pos (by omega)]
          simp
theorem few_any (l : List ByteArray) (A : Option Addr) (c : Nat) (w : World) (hA : Kd.C Kd.string w A l.length l) (hc : l.length ≤ c) :
    Calls Tryd.prog 13 #[.slice A l.length c] w fun e w' => e = .returned (.bool (fewB l)) ∧ Below w.heap.size w w' := by
  obtain ⟨k0, hk0⟩ := few_l0 l l.length 0 (by omega) (by omega)
  exact (pomadelaw01_few.calls k0 A c l (fewB l) w hA hc (by unfold pomadelaw01_few.f; exact hk0 k0 (Nat.le_refl _))).mono fun e w' ⟨h1, h2⟩ => ⟨h1, h2.below⟩
set_option maxHeartbeats 3200000 in
set_option maxRecDepth 100000 in
theorem alive_any (w : World) : Calls Tryd.prog 14 #[] w fun e w' => e = .returned (.bool true) ∧ Below w.heap.size w w' := by
  have h1 := fun w => least_call [[33, 97], [49]] (w.alloc (.cells #[.string (strL [33, 97]), .string (strL [49])] 9)) (some ⟨w.heap.size, 0, none⟩) 2 (C_s2 w _ _)
  have h2 := fun w => first_call [[33, 98], [33, 97]] (w.alloc (.cells #[.string (strL [33, 98]), .string (strL [33, 97])] 9)) (some ⟨w.heap.size, 0, none⟩) 2 (C_s2 w _ _)
  have h3 := fun w => core_call [[33, 97]] (w.alloc (.cells #[.string (strL [33, 97])] 9)) (some ⟨w.heap.size, 0, none⟩) 1 (C_s1 w _)
  have h4 := fun w => revise_call [[33, 97]] ⟨#[48]⟩ (w.alloc (.cells #[.string (strL [33, 97])] 9)) (some ⟨w.heap.size, 0, none⟩) 1 (C_s1 w _) (by decide)
  have h5 := fun w => cycle_call [[33, 98], [33, 97]] false (w.alloc (.cells #[.string (strL [33, 98]), .string (strL [33, 97])] 9)) (some ⟨w.heap.size, 0, none⟩) 2 (C_s2 w _ _)
  rw [k_least] at h1
  rw [k_first] at h2
  rw [k_core] at h3
  rw [k_revise] at h4
  rw [k_cycle] at h5
  have H1 := Aside0.mk h1
  have H2 := Aside0.mk h2
  have H3 := Aside0.mk h3
  have H4 := Aside0.mk h4
  have H5 := Aside0.mk h5
  clear h1 h2 h3 h4 h5
  go_enter Tryd.func14, Tryd.ntmps14
  go_wp2_with fail
  refine (H1.out w).mono ?_
  rintro e w1 ⟨rfl, hb1⟩
  have HB1 := Aside0.mk (below_then (below_alloc (Below.refl w.heap.size w) _) (below_alloc (Below.refl w.heap.size w) _).size hb1)
  clear hb1
  go_wp2_with fail
  refine (H2.out w1).mono ?_
  rintro e w2 ⟨rfl, hb2⟩
  have HB2 := Aside0.mk (below_then (below_alloc HB1.out _) (below_alloc HB1.out _).size hb2)
  clear hb2 HB1
  go_wp2_with fail
  refine (H3.out w2).mono ?_
  rintro e w3 ⟨A3, c3, rfl, hc3, hC3, hb3⟩
  have HB3 := Aside0.mk (below_then (below_alloc HB2.out _) (below_alloc HB2.out _).size hb3)
  have HC3 := Aside0.mk hC3
  clear hb3 HB2 hC3
  go_wp2_with fail
  refine (H4.out w3).mono ?_
  rintro e w4 ⟨rfl, hb4⟩
  have hb34 := below_then (below_alloc (Below.refl w3.heap.size w3) _) (below_alloc (Below.refl w3.heap.size w3) _).size hb4
  have HB4 := Aside0.mk (below_then HB3.out HB3.out.size hb34)
  have HC4 := Aside0.mk (Kd.C_below HC3.out hb34)
  clear hb4 HB3 HC3 hb34
  go_wp2_with fail
  refine (H5.out w4).mono ?_
  rintro e w5 ⟨A5, c5, rfl, hc5, hC5, hb5⟩
  have hb45 := below_then (below_alloc (Below.refl w4.heap.size w4) _) (below_alloc (Below.refl w4.heap.size w4) _).size hb5
  have HB5 := Aside0.mk (below_then HB4.out HB4.out.size hb45)
  have HC5 := Aside0.mk (Kd.C_below HC4.out hb45)
  have HD5 := Aside0.mk hC5
  clear hb5 HB4 HC4 hb45 hC5 H1 H2 H3 H4 H5
  go_wp2_with fail
  have hba : Below w5.heap.size w5 (w5.alloc (.cells #[.int .i64 (0 : Nat)] 3)) := below_alloc (Below.refl _ _) _
  refine (same_any (ints [0]) A3 (some ⟨w5.heap.size, 0, none⟩) c3 1 _ (by decide) (Kd.C_below HC5.out hba) hc3 (C_one w5 0) (by decide)).mono ?_
  rintro e w6 ⟨rfl, hb6⟩
  have hbw := below_then hba hba.size hb6
  have HB6 := Aside0.mk (below_then HB5.out HB5.out.size hbw)
  have HD6 := Aside0.mk (Kd.C_below HD5.out hbw)
  clear hba hb6 hbw HB5 HC5 HD5
  go_wp2_with fail
  have hbb : Below w6.heap.size w6 (w6.alloc (.cells #[.int .i64 (0 : Nat), .int .i64 (1 : Nat)] 3)) := below_alloc (Below.refl _ _) _
  refine (same_any (ints [0, 1]) (some A5) (some ⟨w6.heap.size, 0, none⟩) c5 2 _ (by decide) (Kd.C_below HD6.out hbb) hc5 (C_i2 w6 0 1) (by decide)).mono ?_
  rintro e w7 ⟨rfl, hb7⟩
  have HB7 := Aside0.mk (below_then HB6.out HB6.out.size (below_then hbb hbb.size hb7))
  clear hb7 hbb HB6 HD6
  go_wp2_with fail
  go_ret
  exact ⟨rfl, HB7.out⟩
end Go.Proofs.YtijaefmaceolbaaDoor.Im

namespace Go.Proofs.YtijaefmaceolbaaDoor.Im
open Go.RowKit Go.Proofs.YtijaefmaceolbaaDoorW.PrintWords Go.Proofs.YtijaefmaceolbaaDoorW.PrintLast Go.Proofs.YtijaefmaceolbaaDoorW.PrintMore Go.Proofs.YtijaefmaceolbaaDoor.Tr
set_option linter.unusedVariables false
set_option linter.unusedSimpArgs false
def opN : Tr.Op → Int
  | .and => 38
  | .or => 124
  | .eq => 61
def ndF : Fm → SNd
  | .con b => ⟨if b then 49 else 48, []⟩
  | .lt i => ⟨97 + i, []⟩
  | .neg f => ⟨33, [ndF f]⟩
  | .bin k l r => ⟨opN k, [ndF l, ndF r]⟩
def RB (g : Nat) (s : List UInt8) (many p : Nat) (bad : Bool) (w : World) : Prop := Blk w g 127 #[.string (strL s), .int .i64 (p : Nat), .int .i64 (many : Nat), .bool bad]
def RdOk (s : List UInt8) (p : Nat) (bad : Bool) (x : SNd) : Option (Fm × List UInt8) → Prop
  | some (f, t) => bad = false ∧ x = ndF f ∧ s.drop p = t
  | none => bad = true
theorem rdOk_none (s : List UInt8) (p : Nat) (x : SNd) : RdOk s p true x none := rfl
def FormP (g : Nat) (s : List UInt8) (many : Nat) (w : World) (r : Option (Fm × List UInt8)) (e : Ending) (w' : World) : Prop :=
  ∃ (x : SNd) (v : Value) (p : Nat) (bad : Bool), e = .returned (.agg #[.int .u8 x.f0, v]) ∧ kNd.M w' w.heap.size (fun _ => True) x [.int .u8 x.f0, v] ∧ RB g s many p bad w' ∧ p ≤ s.length ∧ Keep (fun i => i ≠ g) w w' ∧ RdOk s p bad x r
theorem nd_zero (w : World) (base : Nat) : kNd.M w base (fun _ => True) zNd [.int .u8 0, .slice none 0 0] := kNd_mkM w base _ zNd (Kd.R_nil _ _ _ _ _)
section
variable {w : World} {g : Nat} {s : List UInt8} {many p : Nat} {bad : Bool}
theorem RB.c0 (h : RB g s many p bad w) : w.cell? ⟨g, 0, none⟩ = some (.string (strL s)) := Blk.cell h 0
theorem RB.c1 (h : RB g s many p bad w) : w.cell? ⟨g, 1, none⟩ = some (.int .i64 (p : Nat)) := Blk.cell h 1
theorem RB.c2 (h : RB g s many p bad w) : w.cell? ⟨g, 2, none⟩ = some (.int .i64 (many : Nat)) := Blk.cell h 2
theorem RB.c3 (h : RB g s many p bad w) : w.cell? ⟨g, 3, none⟩ = some (.bool bad) := Blk.cell h 3
end
structure FS (w : World) (g : Nat) (s : List UInt8) (many p : Nat) (bad : Bool) (a v : Value) (W : World) : Prop where
  r : RB g s many p bad W
  n : Blk W w.heap.size 84 #[a, v]
  k : Keep (fun i => i ≠ g) w W
  lt : g < w.heap.size
section
variable {w W W' : World} {g : Nat} {s : List UInt8} {many p : Nat} {bad : Bool} {a v : Value}
theorem FS.start (h : RB g s many p bad w) : FS w g s many p bad (.int .u8 0) (.slice none 0 0) (w.alloc (.cells #[.int .u8 0, .slice none 0 0] 84)) :=
  ⟨Blk.later h (below_alloc (Below.refl _ _) _), Blk.new _ _ _, Keep.of_below (below_alloc (Below.refl _ _) _), Blk.lt h⟩
theorem FS.below (h : FS w g s many p bad a v W) (hb : Below W.heap.size W W') : FS w g s many p bad a v W' := ⟨Blk.later h.r hb, Blk.later h.n hb, h.k.trans (Keep.of_below hb), h.lt⟩
theorem FS.drewN (h : FS w g s many p bad a v W) (n : Nat) : FS w g s many p bad a v (W.drewN n) := h.below (pw_below_drewN (Below.refl _ _) n)
theorem FS.alloc (h : FS w g s many p bad a v W) (o : Obj) : FS w g s many p bad a v (W.alloc o) := h.below (below_alloc (Below.refl _ _) o)
theorem FS.fail (h : FS w g s many p bad a v W) : FS w g s many p true a v (W.setCell ⟨g, 3, none⟩ (.bool true)) :=
  ⟨Blk.set_ h.r 3 (.bool true), Blk.far h.n (p := ⟨g, 3, none⟩) (by have := h.lt; show w.heap.size ≠ g; omega) _, h.k.set_ g 3 _ (fun _ hp => hp rfl), h.lt⟩
theorem FS.go (h : FS w g s many p bad a v W) (p' : Nat) : FS w g s many p' bad a v (W.setCell ⟨g, 1, none⟩ (.int .i64 (p' : Nat))) :=
  ⟨Blk.set_ h.r 1 (.int .i64 (p' : Nat)), Blk.far h.n (p := ⟨g, 1, none⟩) (by have := h.lt; show w.heap.size ≠ g; omega) _, h.k.set_ g 1 _ (fun _ hp => hp rfl), h.lt⟩
theorem FS.node (h : FS w g s many p bad a v W) (a' v' : Value) : FS w g s many p bad a' v' ((W.setCell ⟨w.heap.size, 0, none⟩ a').setCell ⟨w.heap.size, 1, none⟩ v') :=
  ⟨Blk.far (Blk.far h.r (p := ⟨w.heap.size, 0, none⟩) (by have := h.lt; show g ≠ w.heap.size; omega) _) (p := ⟨w.heap.size, 1, none⟩) (by have := h.lt; show g ≠ w.heap.size; omega) _, (h.n.set_ 0 a').set_ 1 v',
    (h.k.set_ _ 0 _ (fun hp _ => by omega)).set_ _ 1 _ (fun hp _ => by omega), h.lt⟩
theorem FS.call {p' : Nat} {bad' : Bool} (h : FS w g s many p bad a v W) (hr : RB g s many p' bad' W') (hk : Keep (fun i => i ≠ g) W W') : FS w g s many p' bad' a v W' :=
  ⟨hr, hk.blk h.n (by have := h.lt; omega), h.k.trans hk, h.lt⟩
theorem FS.c0 (h : FS w g s many p bad a v W) : W.cell? ⟨g, 0, none⟩ = some (.string (strL s)) := h.r.c0
theorem FS.c1 (h : FS w g s many p bad a v W) : W.cell? ⟨g, 1, none⟩ = some (.int .i64 (p : Nat)) := h.r.c1
theorem FS.c2 (h : FS w g s many p bad a v W) : W.cell? ⟨g, 2, none⟩ = some (.int .i64 (many : Nat)) := h.r.c2
theorem FS.c3 (h : FS w g s many p bad a v W) : W.cell? ⟨g, 3, none⟩ = some (.bool bad) := h.r.c3
theorem FS.f1 (h : FS w g s many p bad a v W) : W.frozen? ⟨g, 1, none⟩ = false := Blk.frozen h.r 1
theorem FS.f3 (h : FS w g s many p bad a v W) : W.frozen? ⟨g, 3, none⟩ = false := Blk.frozen h.r 3
theorem FS.n0 (h : FS w g s many p bad a v W) : W.cell? ⟨w.heap.size, 0, none⟩ = some a := h.n.cell 0
theorem FS.n1 (h : FS w g s many p bad a v W) : W.cell? ⟨w.heap.size, 1, none⟩ = some v := h.n.cell 1
theorem FS.e0 (h : FS w g s many p bad a v W) : W.frozen? ⟨w.heap.size, 0, none⟩ = false := h.n.frozen 0
theorem FS.e1 (h : FS w g s many p bad a v W) : W.frozen? ⟨w.heap.size, 1, none⟩ = false := h.n.frozen 1
theorem FS.size (h : FS w g s many p bad a v W) : w.heap.size < W.heap.size := h.n.lt
theorem nodeSz : (Tryd.prog.info? 84).map (·.size) = some 2 := by kernel_rfl
theorem FS.ret {x : SNd} {b : Nat} {r : Option (Fm × List UInt8)} (h : FS w g s many p bad (.int .u8 x.f0) v W) (hM : kNd.M W b (fun _ => True) x [.int .u8 x.f0, v]) (hb : w.heap.size ≤ b) (hp : p ≤ s.length)
    (hr : RdOk s p bad x r) (tmps : Array Value) (ht : tmps.getD 2 undef = .pointer (some ⟨w.heap.size, 0, none⟩)) :
    bodyPost Tryd.prog Tryd.f99 (FormP g s many w r) .ret { tmps := tmps, defers := [] } W :=
  bodyPost_ret (v := .agg #[.int .u8 x.f0, v]) (results_cell_row (p := 2) (ty := 84) rfl tmps W w.heap.size 84 _ (0, 0) _ ht h.n Tryd.underlying84 rfl nodeSz) rfl
    ⟨x, v, p, bad, rfl, kNd.M_lower hb hM, h.r, hp, h.k, hr⟩
def RetG (w : World) (g : Nat) (s : List UInt8) (many : Nat) (r : Option (Fm × List UInt8)) (W : World) : Prop :=
  ∃ (p : Nat) (bad : Bool) (x : SNd) (v : Value) (b : Nat), FS w g s many p bad (.int .u8 x.f0) v W ∧ kNd.M W b (fun _ => True) x [.int .u8 x.f0, v] ∧ w.heap.size ≤ b ∧ p ≤ s.length ∧ RdOk s p bad x r
theorem retG {r : Option (Fm × List UInt8)} {tmps : Array Value} (ht : tmps.getD 2 undef = .pointer (some ⟨w.heap.size, 0, none⟩)) (h : RetG w g s many r W) :
    bodyPost Tryd.prog Tryd.f99 (FormP g s many w r) .ret { tmps := tmps, defers := [] } W := by
  obtain ⟨p, bad, x, v, b, h1, h2, h3, h4, h5⟩ := h
  exact h1.ret h2 h3 h4 h5 tmps ht
theorem FS.fin {x : SNd} {b : Nat} {r : Option (Fm × List UInt8)} (h : FS w g s many p bad (.int .u8 x.f0) v W) (hM : kNd.M W b (fun _ => True) x [.int .u8 x.f0, v]) (hb : w.heap.size ≤ b) (hp : p ≤ s.length) (hr : RdOk s p bad x r) : RetG w g s many r W :=
  ⟨p, bad, x, v, b, h, hM, hb, hp, hr⟩
theorem nd_keep {x : SNd} {cs : List Value} {b : Nat} {q : Nat → Prop} (h : kNd.M W b (fun _ => True) x cs) (hk : Keep q W W') (hq : ∀ k, b ≤ k → q k) : kNd.M W' b (fun _ => True) x cs :=
  kNd.M_mono (fun _ _ => trivial) (Kd.M_step (kNd.M_bound h) (fun k hk2 hlt => hk.block k hlt (hq k hk2.2.1)))
end
set_option maxHeartbeats 1600000 in
set_option maxRecDepth 100000 in
theorem form_bad (g : Nat) (s : List UInt8) (many p : Nat) (hp : p ≤ s.length) (w : World) (h : RB g s many p true w) :
    Calls Tryd.prog 99 #[.pointer (some ⟨g, 0, none⟩)] w (FormP g s many w none) := by
  have HS := Aside0.mk (FS.start h)
  have hne : ¬ g = w.heap.size := by have := Blk.lt h; omega
  have hne2 : ¬ w.heap.size = g := by have := Blk.lt h; omega
  clear h
  go_enter Tryd.func99, Tryd.ntmps99
  go_wp2_with fail
  generalize w.alloc (.cells #[.int .u8 0, .slice none 0 0] 84) = W0 at *
  have c3 := HS.out.c3
  have f3 := HS.out.f3
  have g0 := HS.out.n0
  have g1 := HS.out.n1
  have e0 := HS.out.e0
  have e1 := HS.out.e1
  go_quiet (fail)
  go_wp2_with (with_reducible refine retG (by with_unfolding_all rfl) ?_)
  exact ((((HS.out.drewN _).fail).node _ _).fin (x := zNd) (nd_zero _ _) (Nat.le_refl _) hp (rdOk_none s p zNd))
end Go.Proofs.YtijaefmaceolbaaDoor.Im

namespace Go.Proofs.YtijaefmaceolbaaDoor.Im
open Go.RowKit Go.Proofs.YtijaefmaceolbaaDoorW.PrintWords Go.Proofs.YtijaefmaceolbaaDoorW.PrintLast Go.Proofs.YtijaefmaceolbaaDoorW.PrintMore Go.Proofs.YtijaefmaceolbaaDoor.Tr
set_option linter.unusedVariables false
set_option linter.unusedSimpArgs false
theorem FormP.open {g : Nat} {s : List UInt8} {many : Nat} {w : World} {r : Option (Fm × List UInt8)} {e : Ending} {w' : World} (h : FormP g s many w r e w') :
    ∃ (x : SNd) (A : Option Addr) (n c : Nat) (p : Nat) (bad : Bool), e = .returned (.agg #[.int .u8 x.f0, .slice A n c]) ∧ kNd.M w' w.heap.size (fun _ => True) x [.int .u8 x.f0, .slice A n c] ∧ RB g s many p bad w' ∧ p ≤ s.length ∧ Keep (fun i => i ≠ g) w w' ∧ RdOk s p bad x r := by
  obtain ⟨x, v, p, bad, he, hM, hr, hp, hk, hm⟩ := h
  obtain ⟨v1, e1, hR⟩ := kNd_openM hM
  injection e1 with _ e1
  injection e1 with e1 _
  subst e1
  obtain ⟨A, c, rfl⟩ := Kd.R_slice hR
  exact ⟨x, A, _, c, p, bad, he, hM, hr, hp, hk, hm⟩
theorem nd_lit1 {W : World} {b : Nat} {x : SNd} {cs : List Value} (o : Int) (h : kNd.M W b (fun _ => True) x cs) (hb : b ≤ W.heap.size) :
    kNd.M (W.alloc (.cells cs.toArray 84)) b (fun _ => True) ⟨o, [x]⟩ [.int .u8 o, .slice (some ⟨W.heap.size, 0, none⟩) 1 1] := by
  refine kNd_mkM _ _ _ ⟨o, [x]⟩ (v1 := .slice (some ⟨W.heap.size, 0, none⟩) 1 1) ⟨fun _ _ => trivial, OwnRow.lit W b (inner := cs) ?_ hb (by simp)⟩
  have h1 := kNd.M_mono (ok' := fun k => True ∧ some k ≠ (Value.slice (some ⟨W.heap.size, 0, none⟩) 1 1).ownBlock) (fun k hk => ⟨trivial, by have := hk.2.2.1; simp [Value.ownBlock]; omega⟩) (kNd.M_bound h)
  have h2 := Kd.M_below h1 (below_alloc (Below.refl _ _) (.cells cs.toArray 84))
  have hl := kNd.K_len (kNd.K_of_M h2)
  have := (Reps.none (kNd.M (W.alloc (.cells cs.toArray 84)) b (fun k => True ∧ some k ≠ (Value.slice (some ⟨W.heap.size, 0, none⟩) 1 1).ownBlock)) kNd.sz).snoc h2 hl
  simpa using this
theorem nd_lit2 {W : World} {b : Nat} {x y : SNd} {cs ds : List Value} (o : Int) (h : kNd.M W b (fun _ => True) x cs) (k : kNd.M W b (fun _ => True) y ds) (hb : b ≤ W.heap.size) :
    kNd.M (W.alloc (.cells (cs ++ ds).toArray 84)) b (fun _ => True) ⟨o, [x, y]⟩ [.int .u8 o, .slice (some ⟨W.heap.size, 0, none⟩) 2 2] := by
  refine kNd_mkM _ _ _ ⟨o, [x, y]⟩ (v1 := .slice (some ⟨W.heap.size, 0, none⟩) 2 2) ⟨fun _ _ => trivial, OwnRow.lit W b (inner := cs ++ ds) ?_ hb (by simp)⟩
  have mv : ∀ {z : SNd} {es : List Value}, kNd.M W b (fun _ => True) z es → kNd.M (W.alloc (.cells (cs ++ ds).toArray 84)) b (fun k => True ∧ some k ≠ (Value.slice (some ⟨W.heap.size, 0, none⟩) 2 2).ownBlock) z es := fun hz =>
    Kd.M_below (kNd.M_mono (ok' := fun k => True ∧ some k ≠ (Value.slice (some ⟨W.heap.size, 0, none⟩) 2 2).ownBlock) (fun k hk => ⟨trivial, by have := hk.2.2.1; simp [Value.ownBlock]; omega⟩) (kNd.M_bound hz)) (below_alloc (Below.refl _ _) (.cells (cs ++ ds).toArray 84))
  have h1 := mv h
  have h2 := mv k
  have := ((Reps.none (kNd.M (W.alloc (.cells (cs ++ ds).toArray 84)) b (fun k => True ∧ some k ≠ (Value.slice (some ⟨W.heap.size, 0, none⟩) 2 2).ownBlock)) kNd.sz).snoc h1 (kNd.K_len (kNd.K_of_M h1))).snoc h2 (kNd.K_len (kNd.K_of_M h2))
  simpa using this
theorem nd_leaf (w : World) (b : Nat) (o : Int) : kNd.M w b (fun _ => True) ⟨o, []⟩ [.int .u8 o, .slice none 0 0] := kNd_mkM w b _ ⟨o, []⟩ (Kd.R_nil _ _ _ _ _)
theorem strL_at {s : List UInt8} {p : Nat} {c : UInt8} {t : List UInt8} (h : s.drop p = c :: t) (hp : p < (strL s).size) : (((strL s)[p]'hp).toNat : Int) = (c.toNat : Int) := by
  have : s[p]? = some c := by
    have h1 : (s.drop p)[0]? = some c := by rw [h]; rfl
    rwa [List.getElem?_drop, Nat.add_zero] at h1
  have h2 : s[p]'hp = c := by
    have h3 : p < s.length := hp
    rw [List.getElem?_eq_getElem h3] at this
    exact Option.some.inj this
  have h4 : (strL s)[p]'hp = s[p]'hp := rfl
  rw [h4, h2]
theorem rd40 (n k : Nat) (t : List UInt8) : rdF n (k + 1) (40 :: t) = match rdF n k t with
    | none => none
    | some (_, []) => none
    | some (l, o :: t2) =>
      match opOf o with
      | none => none
      | some op =>
        match rdF n k t2 with
        | none => none
        | some (_, []) => none
        | some (r, e :: t3) => if e = 41 then some (.bin op l r, t3) else none := rfl
theorem drop_lt {s : List UInt8} {p : Nat} (h : p < s.length) : ∃ c, s.drop p = c :: s.drop (p + 1) := ⟨_, List.drop_eq_getElem_cons h⟩
theorem rd_bin {s : List UInt8} {many k p1 p2 : Nat} {t : List UInt8} {bad1 bad2 : Bool} {x1 x2 : SNd} {o : UInt8} {op : Tr.Op} (ho1 : RdOk s p1 bad1 x1 (rdF many k t)) (hdo : s.drop p1 = o :: s.drop (p1 + 1)) (hop : opOf o = some op)
    (ho2 : RdOk s p2 bad2 x2 (if bad1 then none else rdF many k (s.drop (p1 + 1)))) :
    (s.drop p2 = [] → rdF many (k + 1) (40 :: t) = none) ∧ (∀ z, s.drop p2 = z :: s.drop (p2 + 1) → z ≠ 41 → rdF many (k + 1) (40 :: t) = none) ∧
      (s.drop p2 = 41 :: s.drop (p2 + 1) → RdOk s (p2 + 1) bad2 ⟨opN op, [x1, x2]⟩ (rdF many (k + 1) (40 :: t))) := by
  rw [rd40]
  cases hq : rdF many k t with
  | none =>
    rw [hq] at ho1
    have hb : bad1 = true := ho1
    subst hb
    have hb2 : bad2 = true := ho2
    exact ⟨fun _ => rfl, fun _ _ _ => rfl, fun _ => hb2⟩
  | some q =>
    obtain ⟨l, r⟩ := q
    rw [hq] at ho1
    obtain ⟨hb, hx, hr⟩ := ho1
    rw [hdo] at hr
    subst hr
    subst hb
    rw [if_neg (by simp)] at ho2
    simp only [hop]
    cases hq2 : rdF many k (s.drop (p1 + 1)) with
    | none =>
      rw [hq2] at ho2
      exact ⟨fun _ => rfl, fun _ _ _ => rfl, fun _ => ho2⟩
    | some q2 =>
      obtain ⟨f2, r2⟩ := q2
      rw [hq2] at ho2
      obtain ⟨hb2, hx2, hr2⟩ := ho2
      subst hr2
      refine ⟨fun h => by rw [h], fun z h hz => by rw [h]; simp only [if_neg hz], fun h => ?_⟩
      rw [h]
      simp only [if_true]
      exact ⟨hb2, by rw [hx, hx2]; simp only [ndF], rfl⟩
structure NB (g gr gb b : Nat) (x : SNd) (sl : Value) (W : World) : Prop where
  bx : Blk W gb 84 #[.int .u8 x.f0, sl]
  m : kNd.M W b (fun _ => True) x [.int .u8 x.f0, sl]
  ng : g < gb
  nr : gr < gb
  nb : g < b
  mb : gr < b
section
variable {w W W' : World} {g gr gb b : Nat} {x : SNd} {sl : Value}
theorem NB.keep (h : NB g gr gb b x sl W) (k : Keep (fun i => i ≠ g) W W') : NB g gr gb b x sl W' := ⟨k.blk h.bx (by have := h.ng; omega), nd_keep h.m k (fun i hi => by have := h.nb; omega), h.ng, h.nr, h.nb, h.mb⟩
theorem NB.below (h : NB g gr gb b x sl W) (hb : Below W.heap.size W W') : NB g gr gb b x sl W' := h.keep (Keep.of_below hb)
theorem NB.alloc (h : NB g gr gb b x sl W) (o : Obj) : NB g gr gb b x sl (W.alloc o) := h.below (below_alloc (Below.refl _ _) o)
theorem NB.drewN (h : NB g gr gb b x sl W) (n : Nat) : NB g gr gb b x sl (W.drewN n) := h.below (pw_below_drewN (Below.refl _ _) n)
theorem NB.set_ (h : NB g gr gb b x sl W) (i : Nat) (u : Value) : NB g gr gb b x sl (W.setCell ⟨g, i, none⟩ u) := h.keep ((Keep.refl _ _).set_ g i u (fun _ hp => hp rfl))
theorem NB.setR (h : NB g gr gb b x sl W) (i : Nat) (u : Value) : NB g gr gb b x sl (W.setCell ⟨gr, i, none⟩ u) :=
  ⟨Blk.far h.bx (p := ⟨gr, i, none⟩) (by have := h.nr; show gb ≠ gr; omega) u, nd_keep h.m ((Keep.refl (fun j => j ≠ gr) W).set_ gr i u (fun _ hp => hp rfl)) (fun j hj => by have := h.mb; omega), h.ng, h.nr, h.nb, h.mb⟩
theorem NB.b0 (h : NB g gr gb b x sl W) : W.cell? ⟨gb, 0, none⟩ = some (.int .u8 x.f0) := h.bx.cell 0
theorem NB.b1 (h : NB g gr gb b x sl W) : W.cell? ⟨gb, 1, none⟩ = some sl := h.bx.cell 1
end
set_option maxHeartbeats 3200000 in
set_option maxRecDepth 100000 in
theorem form_succ (g : Nat) (s : List UInt8) (many : Nat) (hm : many ≤ 10) (hs : s.length ≤ 40) (k p : Nat) (hp : p ≤ s.length) (w : World) (h : RB g s many p false w)
    (hih : ∀ (bad : Bool) (p : Nat) (w : World), p ≤ s.length → RB g s many p bad w → (bad = false → (s.drop p).length < k) →
      Calls Tryd.prog 99 #[.pointer (some ⟨g, 0, none⟩)] w (FormP g s many w (if bad then none else rdF many k (s.drop p))))
    (hk : (s.drop p).length < k + 1) :
    Calls Tryd.prog 99 #[.pointer (some ⟨g, 0, none⟩)] w (FormP g s many w (rdF many (k + 1) (s.drop p))) := by
  have HS := Aside0.mk (FS.start h)
  have IH := Aside0.mk hih
  have hne : ¬ g = w.heap.size := by have := Blk.lt h; omega
  have hne2 : ¬ w.heap.size = g := by have := Blk.lt h; omega
  have hsz : (strL s).size = s.length := strL_size s
  have p0 : (0 : Int) ≤ (p : Int) := by omega
  obtain ⟨R, hR⟩ : ∃ R, rdF many (k + 1) (s.drop p) = R := ⟨_, rfl⟩
  rw [hR]
  clear h hih
  rcases hd : s.drop p with _ | ⟨c, t⟩
  · have hpe : s.length ≤ p := List.drop_eq_nil_iff.1 hd
    have hge : decide ((s.length : Int) ≤ (p : Int)) = true := decide_eq_true (by omega)
    obtain rfl : none = R := by rw [← hR, hd]; rfl
    clear hR
    go_enter Tryd.func99, Tryd.ntmps99
    go_wp2_with fail
    generalize w.alloc (.cells #[.int .u8 0, .slice none 0 0] 84) = W0 at *
    have c0 := HS.out.c0
    have c1 := HS.out.c1
    have c3 := HS.out.c3
    have f3 := HS.out.f3
    have g0 := HS.out.n0
    have g1 := HS.out.n1
    have e0 := HS.out.e0
    have e1 := HS.out.e1
    go_quiet (fail)
    go_wp2_with (with_reducible refine retG (by with_unfolding_all rfl) ?_)
    exact ((((HS.out.drewN _).fail).node _ _).fin (x := zNd) (nd_zero _ _) (Nat.le_refl _) hp (rdOk_none s p zNd))
  · have hpl : p < s.length := by
      rcases Nat.lt_or_ge p s.length with h1 | h1
      · exact h1
      · rw [List.drop_of_length_le h1] at hd; cases hd
    have hpi : (p : Int) < (s.length : Int) := by omega
    have hge : decide ((s.length : Int) ≤ (p : Int)) = false := decide_eq_false (by omega)
    have HRR := Aside0.mk (show rdF many (k + 1) (c :: t) = R by rw [← hd]; exact hR)
    clear hR
    have hx := strL_at hd (by rw [hsz]; exact hpl)
    have hd1 : s.drop (p + 1) = t := by
      have := List.drop_eq_getElem_cons hpl
      rw [hd] at this
      exact (List.cons.inj this).2.symm
    have hw : wrap64 ((p : Int) + 1) = ((p + 1 : Nat) : Int) := wr_succ p (by omega)
    go_enter Tryd.func99, Tryd.ntmps99
    go_wp2_with fail
    generalize w.alloc (.cells #[.int .u8 0, .slice none 0 0] 84) = W0 at *
    have c0 := HS.out.c0
    have c1 := HS.out.c1
    have c3 := HS.out.c3
    have f1 := HS.out.f1
    go_quiet (fail)
    go_wp2_with fail
    go_quiet (fail)
    go_upto_region 5 with fail
    go_cut [41] (fun s41 wx => Aside0 (FS w g s many (p + 1) false (.int .u8 0) (.slice none 0 0) wx))
    case first =>
      go_wp2_with fail
      go_meet
      exact ⟨(HS.out.drewN _).go (p + 1)⟩
    case rest =>
      have HS1 := hcut
      have c2 := HS1.out.c2
      have f3 := HS1.out.f3
      have g0 := HS1.out.n0
      have g1 := HS1.out.n1
      have e0 := HS1.out.e0
      have e1 := HS1.out.e1
      obtain ⟨x, hx0⟩ : ∃ x : Nat, c.toNat = x := ⟨_, rfl⟩
      have hc : ∀ d : UInt8, c = d ↔ x = d.toNat := fun d => by rw [← hx0]; exact ⟨fun h => by rw [h], fun h => UInt8.toNat_inj.1 h⟩
      have hx255 : x ≤ 255 := by rw [← hx0]; exact Nat.le_of_lt_succ c.toNat_lt
      have HP := Aside0.mk (show p + 1 ≤ s.length by omega)
      rw [hx0]
      clear hx
      have HPL := Aside0.mk hpl
      clear hcut hge hw hpi hpl c0 c1 c3 f1 HS
      by_cases q48 : x = 48
      · subst q48
        obtain rfl : c = 48 := (hc 48).2 rfl
        clear hc hx0 hx255
        go_wp2_with (with_reducible refine retG (by with_unfolding_all rfl) ?_)
        exact (HS1.out.node _ _).fin (x := ⟨48, []⟩) (nd_leaf _ _ _) (Nat.le_refl _) HP.out (by rw [← HRR.out]; exact ⟨rfl, rfl, hd1⟩)
      by_cases q49 : x = 49
      · subst q49
        obtain rfl : c = 49 := (hc 49).2 rfl
        clear hc hx0 hx255 q48
        go_wp2_with (with_reducible refine retG (by with_unfolding_all rfl) ?_)
        exact (HS1.out.node _ _).fin (x := ⟨49, []⟩) (nd_leaf _ _ _) (Nat.le_refl _) HP.out (by rw [← HRR.out]; exact ⟨rfl, rfl, hd1⟩)
      have b48 : ((x : Int) == 48) = false := by rw [beq_eq_false_iff_ne]; omega
      have b49 : ((x : Int) == 49) = false := by rw [beq_eq_false_iff_ne]; omega
      by_cases ql : 97 ≤ x ∧ x - 97 < many
      · have d97 : decide (97 ≤ (x : Int)) = true := decide_eq_true (by omega)
        have d122 : decide ((x : Int) ≤ 122) = true := decide_eq_true (by omega)
        have hsub : ((x : Int) - 97) % 256 = ((x - 97 : Nat) : Int) := by omega
        have dlt : decide (((x - 97 : Nat) : Int) < (many : Int)) = true := decide_eq_true (by omega)
        have hr : rdF many (k + 1) (c :: t) = some (.lt (x - 97), t) := by
          rw [rdF, if_neg (fun h => q48 ((hc 48).1 h)), if_neg (fun h => q49 ((hc 49).1 h)), hx0, if_pos ql]
        have HX := Aside0.mk (show RdOk s (p + 1) false ⟨(x : Int), []⟩ R by
          rw [← HRR.out, hr]
          refine ⟨rfl, ?_, hd1⟩
          simp only [ndF]
          congr 1
          omega)
        clear hc hr hx0
        go_wp2_with (with_reducible refine retG (by with_unfolding_all rfl) ?_)
        exact (HS1.out.node _ _).fin (x := ⟨(x : Int), []⟩) (nd_leaf _ _ _) (Nat.le_refl _) HP.out HX.out
      by_cases q33 : x = 33
      · subst q33
        obtain rfl : c = 33 := (hc 33).2 rfl
        clear hc hx0 hx255 ql
        have HR := Aside0.mk (show R = match rdF many k t with
            | none => none
            | some (f, r) => some (.neg f, r) by rw [← HRR.out]; rfl)
        have HC := Aside0.mk (IH.out false (p + 1) wc HP.out HS1.out.r (fun _ => by rw [hd1]; rw [hd] at hk; simpa using hk))
        rw [if_neg (by simp), hd1] at HC
        go_wp2_with fail
        refine HC.out.mono ?_
        intro e w2 hf
        obtain ⟨x1, A1, n1, m1, p1, bad1, rfl, hM1, hr1, hp1, hk1, ho1⟩ := hf.open
        have HS2 := Aside0.mk (HS1.out.call hr1 hk1)
        have HM1 := Aside0.mk hM1
        have HP1 := Aside0.mk hp1
        have HO1 := Aside0.mk ho1
        have hs2 := HS2.out.size
        have HK1 := Aside0.mk hk1.size
        clear hf hM1 hr1 hp1 hk1 ho1 g0 g1 e0 e1 f3 c2
        have g0 := HS2.out.n0
        have g1 := HS2.out.n1
        have e0 := HS2.out.e0
        have e1 := HS2.out.e1
        go_wp2_with (with_reducible refine retG (by with_unfolding_all rfl) ?_)
        have hM3 := nd_keep HM1.out (((Keep.refl (fun i => i ≠ w.heap.size) w2).set_ w.heap.size 0 (.int .u8 33) (fun _ h => h rfl)).set_ w.heap.size 1 (.slice (some ⟨w2.heap.size + 1, 0, none⟩) 1 1) (fun _ h => h rfl)) (fun k hk => by have := HS1.out.size; omega)
        have hM4 := Kd.M_below hM3 (below_alloc (Below.refl _ _) (.cells #[.int .u8 x1.f0, .slice A1 n1 m1] 84))
        have hM5 := nd_lit1 33 hM4 (by have := HS2.out.k.size; have := HK1.out; simp; omega)
        have e5 : (((w2.setCell ⟨w.heap.size, 0, none⟩ (.int .u8 33)).setCell ⟨w.heap.size, 1, none⟩ (.slice (some ⟨w2.heap.size + 1, 0, none⟩) 1 1)).alloc (.cells #[.int .u8 x1.f0, .slice A1 n1 m1] 84)).heap.size = w2.heap.size + 1 := by simp
        rw [e5] at hM5
        refine (((HS2.out.node _ _).alloc _).alloc _).fin (x := ⟨33, [x1]⟩) hM5 (by have := HS1.out.size; omega) HP1.out ?_
        have ho := HO1.out
        rw [HR.out]
        cases hq : rdF many k t with
        | none => rw [hq] at ho; exact ho
        | some q =>
          obtain ⟨f, r⟩ := q
          rw [hq] at ho
          exact ⟨ho.1, by rw [ho.2.1]; simp only [ndF], ho.2.2⟩
      have b33 : ((x : Int) == 33) = false := by rw [beq_eq_false_iff_ne]; omega
      by_cases q40 : x = 40
      · subst q40
        obtain rfl : c = 40 := (hc 40).2 rfl
        clear hc hx0 hx255 ql
        have HR := Aside0.mk (HRR.out.symm.trans (rd40 many k t))
        have HC := Aside0.mk (IH.out false (p + 1) wc HP.out HS1.out.r (fun _ => by rw [hd1]; rw [hd] at hk; simpa using hk))
        rw [if_neg (by simp), hd1] at HC
        have HSP := Aside0.mk (rd_spec many k t)
        have HKT := Aside0.mk (show t.length < k by rw [hd] at hk; simpa using hk)
        go_wp2_with fail
        refine HC.out.mono ?_
        intro e w2 hf
        obtain ⟨x1, A1, n1, m1, p1, bad1, rfl, hM1, hr1, hp1, hk1, ho1⟩ := hf.open
        have HS2 := Aside0.mk ((HS1.out.call hr1 hk1).alloc (.cells #[.int .u8 x1.f0, .slice A1 n1 m1] 84))
        have HN1 : Aside0 (NB g w.heap.size w2.heap.size wc.heap.size x1 (.slice A1 n1 m1) (w2.alloc (.cells #[.int .u8 x1.f0, .slice A1 n1 m1] 84))) :=
          ⟨⟨Blk.new _ _ _, Kd.M_below hM1 (below_alloc (Below.refl _ _) _), by have := (HS1.out.call hr1 hk1).size; have := HS1.out.lt; omega, (HS1.out.call hr1 hk1).size, by have := HS1.out.size; have := HS1.out.lt; omega, HS1.out.size⟩⟩
        obtain ⟨bs1, hbs⟩ : ∃ b, wc.heap.size = b := ⟨_, rfl⟩
        rw [hbs] at HN1
        have HO1 := Aside0.mk ho1
        clear hbs hf hM1 hr1 hk1 ho1 g0 g1 e0 e1 f3 c2 HC HP HPL HRR hd hp hk
        have p10 : (0 : Int) ≤ (p1 : Int) := by omega
        by_cases hpl1 : p1 < s.length
        · obtain ⟨o, hdo⟩ := drop_lt hpl1
          have hpi1 : (p1 : Int) < (s.length : Int) := by omega
          have hlt1 : decide ((p1 : Int) < (s.length : Int)) = true := decide_eq_true (by omega)
          have hx1 := strL_at hdo (by rw [hsz]; exact hpl1)
          have hw1 : wrap64 ((p1 : Int) + 1) = ((p1 + 1 : Nat) : Int) := wr_succ p1 (by omega)
          have HP1 := Aside0.mk (show p1 + 1 ≤ s.length by omega)
          have HDO := Aside0.mk hdo
          clear hdo hp1
          go_upto_region 14 with fail
          generalize w2.alloc (.cells #[.int .u8 x1.f0, .slice A1 n1 m1] 84) = W2 at *
          generalize w2.heap.size = gb1 at *
          have c0 := HS2.out.c0
          have c1 := HS2.out.c1
          have f1 := HS2.out.f1
          go_quiet (fail)
          go_wp2_with fail
          go_quiet (fail)
          go_upto_region 16 with fail
          go_cut [108] (fun s108 wx => Aside0 (FS w g s many (p1 + 1) bad1 (.int .u8 0) (.slice none 0 0) wx) ∧ Aside0 (NB g w.heap.size gb1 bs1 x1 (.slice A1 n1 m1) wx))
          case first =>
            go_wp2_with fail
            go_meet
            exact ⟨⟨(HS2.out.drewN _).go (p1 + 1)⟩, ⟨(HN1.out.drewN _).set_ 1 _⟩⟩
          case rest =>
            obtain ⟨HS3, HN3⟩ := hcut
            obtain ⟨y, hy⟩ : ∃ y : Nat, o.toNat = y := ⟨_, rfl⟩
            rw [hy]
            clear c0 c1 f1 hx1 hw1 hpi1 hlt1 HS2 HN1
            have c3 := HS3.out.c3
            have f3 := HS3.out.f3
            have g0 := HS3.out.n0
            have g1 := HS3.out.n1
            have e0 := HS3.out.e0
            have e1 := HS3.out.e1
            cases hop : opOf o with
            | none =>
              have hno : ∀ op, o ≠ opByte op := fun op h => by rw [h, opOf_byte] at hop; cases hop
              have y1 : ((y : Int) != 38) = true := by rw [bne_iff_ne]; intro h; exact hno .and (UInt8.toNat_inj.1 (by rw [hy]; show y = 38; omega))
              have y2 : ((y : Int) != 124) = true := by rw [bne_iff_ne]; intro h; exact hno .or (UInt8.toNat_inj.1 (by rw [hy]; show y = 124; omega))
              have y3 : ((y : Int) != 61) = true := by rw [bne_iff_ne]; intro h; exact hno .eq (UInt8.toNat_inj.1 (by rw [hy]; show y = 61; omega))
              have hRn : R = none := by
                rw [HR.out]
                have ho := HO1.out
                cases hq : rdF many k t with
                | none => rfl
                | some q =>
                  obtain ⟨l, r⟩ := q
                  rw [hq] at ho
                  have h3 := ho.2.2
                  rw [HDO.out] at h3
                  subst h3
                  simp only [hop]
              have HRN := Aside0.mk hRn
              clear hRn hop hy hno HR HO1 HDO
              go_wp2_with (with_reducible refine retG (by with_unfolding_all rfl) ?_)
              exact ((HS3.out.fail.node _ _).fin (x := zNd) (nd_zero _ _) (Nat.le_refl _) HP1.out (by rw [HRN.out]; exact rdOk_none s _ zNd))
            | some op =>
              have hopy : (y : Int) = opN op := by rw [← hy, opOf_some hop]; cases op <;> rfl
              have HOP := Aside0.mk hop
              have HOY := Aside0.mk hopy
              clear hop hy g0 g1 e0 e1 f3 c3
              go_upto_region 17 with fail
              go_cut [120] (fun s120 wx => s120 = .bool false ∧ Aside0 (FS w g s many (p1 + 1) bad1 (.int .u8 0) (.slice none 0 0) wx) ∧ Aside0 (NB g w.heap.size gb1 bs1 x1 (.slice A1 n1 m1) wx))
              case first =>
                cases op with
                | and =>
                  have y1 : ((y : Int) != 38) = false := by rw [hopy]; rfl
                  clear hopy
                  go_wp2_with fail
                  go_meet
                  exact ⟨rfl, HS3, HN3⟩
                | or =>
                  have y1 : ((y : Int) != 38) = true := by rw [hopy]; rfl
                  have y2 : ((y : Int) != 124) = false := by rw [hopy]; rfl
                  clear hopy
                  go_wp2_with fail
                  go_meet
                  exact ⟨rfl, HS3, HN3⟩
                | eq =>
                  have y1 : ((y : Int) != 38) = true := by rw [hopy]; rfl
                  have y2 : ((y : Int) != 124) = true := by rw [hopy]; rfl
                  have y3 : ((y : Int) != 61) = false := by rw [hopy]; rfl
                  clear hopy
                  go_wp2_with fail
                  go_meet
                  exact ⟨rfl, HS3, HN3⟩
              case rest =>
                obtain ⟨rfl, HS4, HN4⟩ := hcut
                clear HS3 HN3 hopy
                have hlen2 : bad1 = false → (s.drop (p1 + 1)).length < k := fun hb => by
                  have ho := HO1.out
                  cases hq : rdF many k t with
                  | none => rw [hq] at ho; rw [show bad1 = true from ho] at hb; cases hb
                  | some q =>
                    obtain ⟨l, r⟩ := q
                    rw [hq] at ho
                    obtain ⟨_, pf, hpf, _, _⟩ := HSP.out l r hq
                    have h1 := congrArg List.length hpf
                    rw [List.length_append, ← ho.2.2, HDO.out, List.length_cons] at h1
                    have := HKT.out
                    omega
                have HC := Aside0.mk (IH.out bad1 (p1 + 1) _ HP1.out HS4.out.r hlen2)
                clear hlen2
                go_wp2_with fail
                refine HC.out.mono ?_
                intro e w3 hf
                obtain ⟨x2, A2, n2, m2, p2, bad2, rfl, hM2, hr2, hp2, hk2, ho2⟩ := hf.open
                have HS5 := Aside0.mk ((HS4.out.call hr2 hk2).alloc (.cells #[.int .u8 x2.f0, .slice A2 n2 m2] 84))
                have HN5 := Aside0.mk ((HN4.out.keep hk2).alloc (.cells #[.int .u8 x2.f0, .slice A2 n2 m2] 84))
                have HN6 : Aside0 (NB g w.heap.size w3.heap.size _ x2 (.slice A2 n2 m2) (w3.alloc (.cells #[.int .u8 x2.f0, .slice A2 n2 m2] 84))) :=
                  ⟨⟨Blk.new _ _ _, Kd.M_below hM2 (below_alloc (Below.refl _ _) _), by have := (HS4.out.call hr2 hk2).size; have := HS4.out.lt; omega, (HS4.out.call hr2 hk2).size, by have := HS4.out.size; have := HS4.out.lt; omega, HS4.out.size⟩⟩
                have HO2 := Aside0.mk ho2
                have HBIN := Aside0.mk (rd_bin HO1.out HDO.out HOP.out ho2)
                rw [← HOY.out, rd40, ← HR.out] at HBIN
                have HPP := Aside0.mk hp2
                clear hf hM2 hr2 hk2 ho2 HC
                have p20 : (0 : Int) ≤ (p2 : Int) := by omega
                clear HO1 HO2 HR HSP HKT IH HDO HOP HP1 hp2
                by_cases hpl2 : p2 < s.length
                · obtain ⟨z0, hdz⟩ := drop_lt hpl2
                  have hpi2 : (p2 : Int) < (s.length : Int) := by omega
                  have hge2 : decide ((s.length : Int) ≤ (p2 : Int)) = false := decide_eq_false (by omega)
                  have hx2 := strL_at hdz (by rw [hsz]; exact hpl2)
                  have hw2 : wrap64 ((p2 : Int) + 1) = ((p2 + 1 : Nat) : Int) := wr_succ p2 (by omega)
                  have HP2 := Aside0.mk (show p2 + 1 ≤ s.length by omega)
                  obtain ⟨z, hz⟩ : ∃ z : Nat, z0.toNat = z := ⟨_, rfl⟩
                  rw [hz] at hx2
                  by_cases hz41 : z0 = 41
                  · subst hz41
                    have z1 : ((z : Int) != 41) = false := by rw [← hz]; rfl
                    have HRB := Aside0.mk (HBIN.out.2.2 hdz)
                    clear HBIN hdz hz
                    go_upto_region 21 with fail
                    generalize w3.alloc (.cells #[.int .u8 x2.f0, .slice A2 n2 m2] 84) = W5 at *
                    generalize w3.heap.size = gb2 at *
                    have c0 := HS5.out.c0
                    have c1 := HS5.out.c1
                    have f1 := HS5.out.f1
                    have g0 := HS5.out.n0
                    have g1 := HS5.out.n1
                    have e0 := HS5.out.e0
                    have e1 := HS5.out.e1
                    have b0 := HN5.out.b0
                    have b1 := HN5.out.b1
                    have d0 := HN6.out.b0
                    have d1 := HN6.out.b1
                    have hs5 := HS5.out.size
                    have m1 : ¬ gb1 = g := by have := HN5.out.ng; omega
                    have m2 : ¬ gb2 = g := by have := HN6.out.ng; omega
                    have m3 : ¬ gb1 = w.heap.size := by have := HN5.out.nr; omega
                    have m4 : ¬ gb2 = w.heap.size := by have := HN6.out.nr; omega
                    go_quiet (fail)
                    go_wp2_with (with_reducible refine retG (by with_unfolding_all rfl) ?_)
                    have hN5 := ((((HN5.out.drewN nq).set_ 1 (.int .i64 ((p2 + 1 : Nat) : Int))).setR 0 (.int .u8 (y : Int))).setR 1 (.slice (some ⟨W5.heap.size, 0, none⟩) 2 2)).m
                    have hN6 := ((((HN6.out.drewN nq).set_ 1 (.int .i64 ((p2 + 1 : Nat) : Int))).setR 0 (.int .u8 (y : Int))).setR 1 (.slice (some ⟨W5.heap.size, 0, none⟩) 2 2)).m
                    have hL5 := kNd.M_lower (show w.heap.size + 1 ≤ _ from HN5.out.mb) hN5
                    have hL6 := kNd.M_lower (show w.heap.size + 1 ≤ _ from HN6.out.mb) hN6
                    have hM := nd_lit2 (y : Int) hL5 hL6 (by simp; omega)
                    have e5 : (((((W5.drewN nq).setCell ⟨g, 1, none⟩ (.int .i64 ((p2 + 1 : Nat) : Int))).setCell ⟨w.heap.size, 0, none⟩ (.int .u8 (y : Int))).setCell ⟨w.heap.size, 1, none⟩ (.slice (some ⟨W5.heap.size, 0, none⟩) 2 2))).heap.size = W5.heap.size := by simp
                    rw [e5] at hM
                    exact ((((HS5.out.drewN _).go (p2 + 1)).node _ _).alloc _).fin (x := ⟨(y : Int), [x1, x2]⟩) hM (by omega) HP2.out HRB.out
                  · have z1 : ((z : Int) != 41) = true := by rw [bne_iff_ne]; intro h; exact hz41 (UInt8.toNat_inj.1 (by rw [hz]; show z = 41; omega))
                    have HRN := Aside0.mk (HBIN.out.2.1 z0 hdz hz41)
                    clear HBIN hdz hz hz41 HN5 HN6
                    go_upto_region 21 with fail
                    generalize w3.alloc (.cells #[.int .u8 x2.f0, .slice A2 n2 m2] 84) = W5 at *
                    have c0 := HS5.out.c0
                    have c1 := HS5.out.c1
                    have c3 := HS5.out.c3
                    have f3 := HS5.out.f3
                    have g0 := HS5.out.n0
                    have g1 := HS5.out.n1
                    have e0 := HS5.out.e0
                    have e1 := HS5.out.e1
                    go_quiet (fail)
                    go_wp2_with (with_reducible refine retG (by with_unfolding_all rfl) ?_)
                    exact ((((HS5.out.drewN _).fail).node _ _).fin (x := zNd) (nd_zero _ _) (Nat.le_refl _) (by omega) (by rw [HRN.out]; exact rdOk_none s _ zNd))
                · have hge2 : decide ((s.length : Int) ≤ (p2 : Int)) = true := decide_eq_true (by omega)
                  have HRN := Aside0.mk (HBIN.out.1 (List.drop_of_length_le (by omega)))
                  clear HBIN HN5 HN6
                  go_upto_region 21 with fail
                  generalize w3.alloc (.cells #[.int .u8 x2.f0, .slice A2 n2 m2] 84) = W5 at *
                  have c0 := HS5.out.c0
                  have c1 := HS5.out.c1
                  have c3 := HS5.out.c3
                  have f3 := HS5.out.f3
                  have g0 := HS5.out.n0
                  have g1 := HS5.out.n1
                  have e0 := HS5.out.e0
                  have e1 := HS5.out.e1
                  go_quiet (fail)
                  go_wp2_with (with_reducible refine retG (by with_unfolding_all rfl) ?_)
                  exact ((((HS5.out.drewN _).fail).node _ _).fin (x := zNd) (nd_zero _ _) (Nat.le_refl _) HPP.out (by rw [HRN.out]; exact rdOk_none s _ zNd))
        · have hge1 : decide ((p1 : Int) < (s.length : Int)) = false := decide_eq_false (by omega)
          have hRn : R = none := by
            rw [HR.out]
            have ho := HO1.out
            cases hq : rdF many k t with
            | none => rfl
            | some q =>
              obtain ⟨l, r⟩ := q
              rw [hq] at ho
              have h3 := ho.2.2
              rw [List.drop_of_length_le (by omega)] at h3
              subst h3
              rfl
          have HRN := Aside0.mk hRn
          clear hRn HR HO1 HN1 HSP HKT IH
          go_upto_region 14 with fail
          generalize w2.alloc (.cells #[.int .u8 x1.f0, .slice A1 n1 m1] 84) = W2 at *
          have c0 := HS2.out.c0
          have c1 := HS2.out.c1
          have c3 := HS2.out.c3
          have f3 := HS2.out.f3
          have g0 := HS2.out.n0
          have g1 := HS2.out.n1
          have e0 := HS2.out.e0
          have e1 := HS2.out.e1
          go_quiet (fail)
          go_wp2_with (with_reducible refine retG (by with_unfolding_all rfl) ?_)
          exact ((((HS2.out.drewN _).fail).node _ _).fin (x := zNd) (nd_zero _ _) (Nat.le_refl _) hp1 (by rw [HRN.out]; exact rdOk_none s _ zNd))
      have b40 : ((x : Int) == 40) = false := by rw [beq_eq_false_iff_ne]; omega
      have hRn : R = none := by
        rw [← HRR.out, rdF, if_neg (fun h => q48 ((hc 48).1 h)), if_neg (fun h => q49 ((hc 49).1 h)), hx0, if_neg ql, if_neg (fun h => q33 ((hc 33).1 h)), if_neg (fun h => q40 ((hc 40).1 h))]
      have HRN := Aside0.mk hRn
      have c3 := HS1.out.c3
      clear hc hx0 hRn IH HRR hd hk
      by_cases h97 : 97 ≤ x
      · have d97 : decide (97 ≤ (x : Int)) = true := decide_eq_true (by omega)
        by_cases h122 : x ≤ 122
        · have d122 : decide ((x : Int) ≤ 122) = true := decide_eq_true (by omega)
          have hsub : ((x : Int) - 97) % 256 = ((x - 97 : Nat) : Int) := by omega
          have dlt : decide (((x - 97 : Nat) : Int) < (many : Int)) = false := decide_eq_false (by omega)
          go_wp2_with (with_reducible refine retG (by with_unfolding_all rfl) ?_)
          exact ((HS1.out.fail.node _ _).fin (x := zNd) (nd_zero _ _) (Nat.le_refl _) HP.out (by rw [HRN.out]; exact rdOk_none s _ zNd))
        · have d122 : decide ((x : Int) ≤ 122) = false := decide_eq_false (by omega)
          go_wp2_with (with_reducible refine retG (by with_unfolding_all rfl) ?_)
          exact ((HS1.out.fail.node _ _).fin (x := zNd) (nd_zero _ _) (Nat.le_refl _) HP.out (by rw [HRN.out]; exact rdOk_none s _ zNd))
      · have d97 : decide (97 ≤ (x : Int)) = false := decide_eq_false (by omega)
        go_wp2_with (with_reducible refine retG (by with_unfolding_all rfl) ?_)
        exact ((HS1.out.fail.node _ _).fin (x := zNd) (nd_zero _ _) (Nat.le_refl _) HP.out (by rw [HRN.out]; exact rdOk_none s _ zNd))
end Go.Proofs.YtijaefmaceolbaaDoor.Im

