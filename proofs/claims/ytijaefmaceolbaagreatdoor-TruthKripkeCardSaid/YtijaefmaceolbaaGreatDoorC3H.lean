/- Further parts of the same walk: contracts of the functions that the law reaches, each under the conditions that it states. -/
import Derived.Test.YtijaefmaceolbaaGreatDoorC3G
import Derived.Laws.ResultCell
namespace Go.Proofs.YtijaefmaceolbaaGreatDoor.Im
open Go.RowKit Go.Proofs.YtijaefmaceolbaaGreatDoorW.PrintWords Go.Proofs.YtijaefmaceolbaaGreatDoorW.PrintLast Go.Proofs.YtijaefmaceolbaaGreatDoorW.PrintMore Go.Proofs.YtijaefmaceolbaaGreatDoor.Tr
set_option linter.unusedVariables false
set_option linter.unusedSimpArgs false
theorem form_any (g : Nat) (s : List UInt8) (many : Nat) (hm : many ≤ 10) (hs : s.length ≤ 40) : ∀ (k : Nat) (bad : Bool) (p : Nat) (w : World), p ≤ s.length → RB g s many p bad w → (bad = false → (s.drop p).length < k) →
      Calls Tryz.prog 81 #[.pointer (some ⟨g, 0, none⟩)] w (FormP g s many w (if bad then none else rdF many k (s.drop p)))
  | k, true, p, w, hp, h, _ => by
    rw [if_pos rfl]
    exact form_bad g s many p hp w h
  | 0, false, p, w, hp, h, hk => absurd (hk rfl) (by omega)
  | k + 1, false, p, w, hp, h, hk => by
    rw [if_neg (by simp)]
    exact form_succ g s many hm hs k p hp w h (form_any g s many hm hs k) (hk rfl)
theorem parse_of {n : Nat} {s : List UInt8} {p : Nat} {bad : Bool} {x : SNd} (h : RdOk s p bad x (rdF n (s.length + 1) s)) (hp : p ≤ s.length) (h40 : s.length ≤ 40) :
    ((bad = true ∨ p ≠ s.length) → parseE n s = 5) ∧ (bad = false → p = s.length → parseE n s = 0 ∧ ∃ f, parseO n s = some f ∧ x = ndF f) := by
  unfold parseE parseO
  rw [if_neg (by omega)]
  cases hq : rdF n (s.length + 1) s with
  | none =>
    rw [hq] at h
    have hb : bad = true := h
    subst hb
    exact ⟨fun _ => rfl, fun h => by cases h⟩
  | some q =>
    obtain ⟨f, t⟩ := q
    rw [hq] at h
    obtain ⟨h1, h2, h3⟩ := h
    subst h1
    refine ⟨fun hh => ?_, fun _ hpl => ?_⟩
    · have hne : p ≠ s.length := by rcases hh with hh | hh; cases hh; exact hh
      have : t ≠ [] := by
        rintro rfl
        have := List.drop_eq_nil_iff.1 h3
        omega
      cases t with
      | nil => exact absurd rfl this
      | cons c t => rfl
    · have : t = [] := by rw [← h3, hpl, List.drop_length]
      subst this
      exact ⟨rfl, f, rfl, h2⟩
def ParsedP (n : Nat) (s : List UInt8) (w : World) (e : Ending) (w' : World) : Prop :=
  ∃ (x : SNd) (A : Option Addr) (m c : Nat), e = .returned (.tuple #[.agg #[.int .u8 x.f0, .slice A m c], .int .i64 (parseE n s)]) ∧ kNd.M w' w.heap.size (fun _ => True) x [.int .u8 x.f0, .slice A m c] ∧ (parseE n s = 0 → ∃ f, parseO n s = some f ∧ x = ndF f) ∧ Below w.heap.size w w'
theorem ret2_node {x : Int} {A : Option Addr} {m c : Nat} {er : Int} {W : World} {gr : Nat} {Q : Ending → World → Prop} (hg : Blk W gr 99 #[.int .u8 x, .slice A m c]) (tmps : Array Value) (ht : tmps.getD 4 undef = .pointer (some ⟨gr, 0, none⟩)) (h5 : tmps.getD 5 undef = .int .i64 er)
    (h : Q (.returned (.tuple #[.agg #[.int .u8 x, .slice A m c], .int .i64 er])) W) : bodyPost Tryz.prog Tryz.f62 Q .ret { tmps := tmps, defers := [] } W := by
  refine bodyPost_ret (v := .tuple #[.agg #[.int .u8 x, .slice A m c], .int .i64 er]) ?_ rfl h
  have hl : (loadVar 99 ⟨gr, 0, none⟩).run Tryz.prog W = .ok (.agg #[.int .u8 x, .slice A m c]) W := run_loadVar_row W gr _ _ _ (0, 0) _ hg Tryz.underlying99 rfl nodeSz
  show (results Tryz.f62 tmps).run Tryz.prog W = _
  rw [results_cell_tmp (p := 4) (u := 5) (ty := 99) rfl, ht, h5]
  simp [asAddr, Result.andThen, hl]
set_option maxHeartbeats 1600000 in
set_option maxRecDepth 100000 in
theorem parsed_any (n : Nat) (hn : n ≤ 10) (s : List UInt8) (w : World) :
    Calls Tryz.prog 62 #[.string (strL s), .int .i64 (n : Nat)] w (ParsedP n s w) := by
  have hsz : (strL s).size = s.length := strL_size s
  have hb0 : Below w.heap.size w (w.alloc (.cells #[.int .u8 0, .slice none 0 0] 99)) := below_alloc (Below.refl _ _) _
  have HB0 := Aside0.mk hb0
  have HG := Aside0.mk (Blk.new w 99 #[.int .u8 0, .slice none 0 0])
  by_cases h40 : s.length ≤ 40
  · have d40 : decide ((s.length : Int) > 40) = false := decide_eq_false (by omega)
    have HR := Aside0.mk (show RB w.heap.size.succ s n 0 false ((w.alloc (.cells #[.int .u8 0, .slice none 0 0] 99)).alloc (.cells #[.string (strL s), .int .i64 0, .int .i64 (n : Nat), .bool false] 125)) from Blk.new' (by simp))
    have HC := Aside0.mk (form_any w.heap.size.succ s n hn h40 (s.length + 1) false 0 _ (Nat.zero_le _) HR.out (fun _ => by simp))
    rw [if_neg (by simp), List.drop_zero] at HC
    go_enter Tryz.func62, Tryz.ntmps62
    go_wp2_with fail
    refine HC.out.mono ?_
    intro e w2 hf
    obtain ⟨x1, A1, n1, m1, p1, bad1, rfl, hM1, hr1, hp1, hk1, ho1⟩ := hf.open
    have hG2 : Blk w2 w.heap.size 99 #[.int .u8 0, .slice none 0 0] := hk1.blk (HG.out.alloc _) (by show w.heap.size ≠ w.heap.size.succ; omega)
    have hb2 : Below w.heap.size w w2 := (below_alloc hb0 _).trans (hk1.below (by simp; omega) (fun i hi => by show i ≠ w.heap.size.succ; omega))
    have hba : Below w2.heap.size w2 (w2.alloc (.cells #[.int .u8 x1.f0, .slice A1 n1 m1] 99)) := below_alloc (Below.refl _ _) _
    have HB3 := Aside0.mk (below_alloc hb2 (.cells #[.int .u8 x1.f0, .slice A1 n1 m1] 99))
    have HG3 := Aside0.mk (hG2.alloc (.cells #[.int .u8 x1.f0, .slice A1 n1 m1] 99))
    have HR3 := Aside0.mk (show RB w.heap.size.succ s n p1 bad1 (w2.alloc (.cells #[.int .u8 x1.f0, .slice A1 n1 m1] 99)) from Blk.later hr1 hba)
    have HX3 := Aside0.mk (Blk.new w2 99 #[.int .u8 x1.f0, .slice A1 n1 m1])
    have HM3 := Aside0.mk (Kd.M_below hM1 hba)
    have HPF := Aside0.mk (parse_of ho1 hp1 h40)
    have hsz2 : w.heap.size < w2.heap.size := hG2.lt
    clear hf hM1 hr1 hk1 ho1 hba hb2 hG2 hb0 HC HR HB0 HG
    have c1 := HR3.out.c1
    have c3 := HR3.out.c3
    have g0 : (w2.alloc (.cells #[.int .u8 x1.f0, .slice A1 n1 m1] 99)).cell? ⟨w.heap.size, 0, none⟩ = some (.int .u8 0) := HG3.out.cell 0
    have g1 : (w2.alloc (.cells #[.int .u8 x1.f0, .slice A1 n1 m1] 99)).cell? ⟨w.heap.size, 1, none⟩ = some (.slice none 0 0) := HG3.out.cell 1
    have e0 := HG3.out.frozen 0
    have e1 := HG3.out.frozen 1
    have x0 : (w2.alloc (.cells #[.int .u8 x1.f0, .slice A1 n1 m1] 99)).cell? ⟨w2.heap.size, 0, none⟩ = some (.int .u8 x1.f0) := HX3.out.cell 0
    have x1' : (w2.alloc (.cells #[.int .u8 x1.f0, .slice A1 n1 m1] 99)).cell? ⟨w2.heap.size, 1, none⟩ = some (.slice A1 n1 m1) := HX3.out.cell 1
    by_cases hbp : bad1 = true ∨ p1 ≠ s.length
    · have HE := Aside0.mk (HPF.out.1 hbp)
      clear HPF
      have hpb : (bad1 = true) ∨ (bad1 = false ∧ ((p1 : Int) != (s.length : Int)) = true) := by
        cases bad1
        · refine .inr ⟨rfl, bne_iff_ne.2 ?_⟩
          rcases hbp with h | h
          · cases h
          · omega
        · exact .inl rfl
      clear hbp
      rcases hpb with rfl | ⟨rfl, hne⟩
      all_goals
        go_upto_region 5 with fail
        generalize w2.alloc (.cells #[.int .u8 x1.f0, .slice A1 n1 m1] 99) = W3 at *
        go_wp2_with fail
        refine ret2_node ((HG3.out.set_ 0 _).set_ 1 _) _ rfl rfl ⟨zNd, none, 0, 0, by rw [HE.out]; rfl, nd_zero _ _, fun h => (by rw [HE.out] at h; cases h), ?_⟩
        exact below_set (below_set HB3.out (Nat.le_refl _)) (Nat.le_refl _)
    · have hb1 : bad1 = false := by cases bad1; rfl; exact absurd (.inl rfl) hbp
      have hpe : p1 = s.length := Classical.byContradiction fun h => hbp (.inr h)
      subst hb1
      have HE := Aside0.mk (HPF.out.2 rfl hpe)
      have hne : ((p1 : Int) != (s.length : Int)) = false := bne_eq_false_iff_eq.2 (by omega)
      clear HPF hbp hpe
      go_upto_region 5 with fail
      generalize w2.alloc (.cells #[.int .u8 x1.f0, .slice A1 n1 m1] 99) = W3 at *
      go_wp2_with fail
      have hM4 := nd_keep HM3.out (((Keep.refl (fun i => i ≠ w.heap.size) W3).set_ w.heap.size 0 (.int .u8 x1.f0) (fun _ h => h rfl)).set_ w.heap.size 1 (.slice A1 n1 m1) (fun _ h => h rfl)) (fun k hk => by simp at hk; omega)
      refine ret2_node ((HG3.out.set_ 0 _).set_ 1 _) _ rfl rfl ⟨x1, A1, n1, m1, by rw [HE.out.1], kNd.M_lower (by simp; omega) hM4, fun _ => HE.out.2, ?_⟩
      exact below_set (below_set HB3.out (Nat.le_refl _)) (Nat.le_refl _)
  · have d40 : decide ((s.length : Int) > 40) = true := decide_eq_true (by omega)
    have g0 : (w.alloc (.cells #[.int .u8 0, .slice none 0 0] 99)).cell? ⟨w.heap.size, 0, none⟩ = some (.int .u8 0) := HG.out.cell 0
    have hE : parseE n s = 3 := by unfold parseE; rw [if_pos (by omega)]
    have HE := Aside0.mk hE
    clear hE hb0
    go_enter Tryz.func62, Tryz.ntmps62
    go_wp2_with fail
    exact ret2_node HG.out _ rfl rfl ⟨zNd, none, 0, 0, by rw [HE.out]; rfl, nd_zero _ _, fun h => (by rw [HE.out] at h; cases h), HB0.out⟩
end Go.Proofs.YtijaefmaceolbaaGreatDoor.Im

namespace Go.Proofs.YtijaefmaceolbaaGreatDoor.Im
open Go.RowKit Go.Proofs.YtijaefmaceolbaaGreatDoorW.PrintWords Go.Proofs.YtijaefmaceolbaaGreatDoorW.PrintLast Go.Proofs.YtijaefmaceolbaaGreatDoorW.PrintMore Go.Proofs.YtijaefmaceolbaaGreatDoor.Tr
attribute [local go_sem] max2_int min2_int max_two min_two max_three min_three max_four min_four
set_option linter.unusedVariables false
set_option linter.unusedSimpArgs false
def ReadP (l : List (List UInt8)) (w : World) (e : Ending) (w' : World) : Prop :=
  ∃ v, e = .returned (.tuple #[v, .int .i64 (sysE l)]) ∧ Below w.heap.size w w' ∧ (sysE l = 0 → Kd.R kNd 99 w' w.heap.size (fun _ => True) v ((sysF l).map ndF)) ∧ (sysE l ≠ 0 → v = .slice none 0 0)
theorem rread_long (l : List (List UInt8)) (w : World) (A : Option Addr) (c : Nat) (h : 10 < l.length) : Calls Tryz.prog 30 #[.slice A l.length c] w (ReadP l w) := by
  have HE := Aside0.mk (show sysE l = 3 by unfold sysE; rw [if_pos h])
  have hb : decide (10 < (l.length : Int)) = true := decide_eq_true (by omega)
  have hb' : decide (10 < l.length) = true := decide_eq_true (by omega)
  go_enter Tryz.func30, Tryz.ntmps30
  go_wp2_with fail
  go_ret2
  exact ⟨.slice none 0 0, (by rw [HE.out]; rfl), Below.refl _ _, fun h => (by rw [HE.out] at h; cases h), fun _ => rfl⟩
theorem rread_nil (w : World) (A : Option Addr) (c : Nat) : Calls Tryz.prog 30 #[.slice A (([] : List (List UInt8)).length) c] w (ReadP [] w) := by
  have HE := Aside0.mk (show sysE [] = 2 from rfl)
  go_enter Tryz.func30, Tryz.ntmps30
  go_wp2_with fail
  go_ret2
  exact ⟨.slice none 0 0, (by rw [HE.out]; rfl), Below.refl _ _, fun h => (by rw [HE.out] at h; cases h), fun _ => rfl⟩
def ndO (n : Nat) (s : List UInt8) : SNd := ndF (fmO n s)
theorem ndO_snoc {n : Nat} {l : List (List UInt8)} {k : Nat} (h : k < l.length) : (l.take (k + 1)).map (ndO n) = (l.take k).map (ndO n) ++ [ndO n (l.getD k [])] := by
  rw [List.take_succ_eq_append_getElem h, List.map_append]
  simp [h]
def ReadGo (n : Nat) (l : List (List UInt8)) (w : World) (e : Ending) (w' : World) : Prop :=
  ∃ v, e = .returned (.tuple #[v, .int .i64 (firstE n l)]) ∧ Below w.heap.size w w' ∧ (firstE n l = 0 → Kd.R kNd 99 w' w.heap.size (fun _ => True) v (l.map (ndO n))) ∧ (firstE n l ≠ 0 → v = .slice none 0 0)
set_option maxHeartbeats 1600000 in
set_option maxRecDepth 100000 in
theorem rread_go (l : List (List UInt8)) (w : World) (A : Option Addr) (c n : Nat) (hn : l.length = n) (h1 : 0 < n) (h2 : n ≤ 10) (hr : Kd.C Kd.string w A n (l.map strL)) : Calls Tryz.prog 30 #[.slice A n c] w (ReadGo n l w) := by
  have hb : decide (10 < (n : Int)) = false := decide_eq_false (by omega)
  have hb' : decide (10 < n) = false := decide_eq_false (by omega)
  have hz : ((n : Int) == 0) = false := beq_eq_false_iff_ne.2 (by omega)
  have n0 : (0 : Int) ≤ (n : Int) := by omega
  have HR := Aside0.mk hr
  have HN := Aside0.mk hn
  have HB0 := Aside0.mk (Below.refl w.heap.size w)
  clear hr hn
  go_enter Tryz.func30, Tryz.ntmps30
  go_wp2_with fail
  go_loopw [4, 5] (fun v v5 wr => ∃ k : Nat, k ≤ n ∧ v5 = .int .i64 (k : Int) ∧ Aside0 (firstE n l = firstE n (l.drop k)) ∧ Aside0 (Kd.R kNd 99 wr w.heap.size (fun _ => True) v ((l.take k).map (ndO n))) ∧ Aside0 (Below w.heap.size w wr)) (fun _ v5 _ => n - (intOf v5).toNat)
  case atStart => exact ⟨0, by omega, rfl, ⟨rfl⟩, ⟨Kd.R_nil _ _ _ _ _⟩, HB0⟩
  case round =>
    clear HB0
    obtain ⟨k, hk, rfl, HE, HO, HB⟩ := hrel
    have k0 : (0 : Int) ≤ (k : Int) := by omega
    by_cases hkn : k < n
    · have hkn' : (k : Int) < (n : Int) := by omega
      have hkl : k < l.length := by have := HN.out; omega
      obtain ⟨ad, rfl, hcell⟩ := Kd.at_string (Kd.C_below HR.out HB.out) (k : Int) k0 hkn'
      rw [rd_strL l k hkl, Int.toNat_natCast] at hcell
      have HP := Aside0.mk (parsed_any n h2 (l.getD k []) wr)
      have HE2 := Aside0.mk (HE.out.trans (firstE_drop hkl))
      have HS := Aside0.mk (ndO_snoc (n := n) hkl)
      have hlen : ((l.take k).map (ndO n)).length ≤ 10 := by rw [List.length_map, List.length_take]; omega
      have HL := Aside0.mk hlen
      clear hkl hlen
      have hfm : ∀ x, (parseE n (l.getD k []) = 0 → ∃ f, parseO n (l.getD k []) = some f ∧ x = ndF f) → parseE n (l.getD k []) = 0 → x = ndO n (l.getD k []) := fun x h h0 => by
        obtain ⟨f, hf, hx⟩ := h h0
        rw [hx, ndO, fmO, hf]
        rfl
      have HFM := Aside0.mk hfm
      clear hfm
      generalize l.getD k [] = s at *
      have HBW := Aside0.mk HB.out.size
      obtain ⟨I, hO⟩ := Kd.R_own HO.out
      have HOW := Aside0.mk (fun b hb => own_lt hO b hb)
      clear hO
      by_cases hp : parseE n s = 0
      · have he2 := HE2.out
        rw [if_pos hp] at he2
        have HE3 := Aside0.mk he2
        have HZ := Aside0.mk hp
        clear he2 HE2 HE hp
        go_wp2_with fail
        refine HP.out.mono ?_
        rintro e w2 ⟨x1, A1, m1, d1, rfl, hM, hx, hb2⟩
        rw [HZ.out]
        have HX := Aside0.mk (HFM.out x1 hx HZ.out)
        have hM2 := kNd.M_mono (ok' := fun q => wr.heap.size ≤ q) (fun q hq => hq.2.1) (kNd.M_bound hM)
        have HM := Aside0.mk (Kd.M_below hM2 (below_alloc (Below.refl _ _) (.cells #[.int .u8 x1.f0, .slice A1 m1 d1] 99)))
        have HB2 := Aside0.mk (below_alloc (below_then HB.out HB.out.size hb2) (.cells #[.int .u8 x1.f0, .slice A1 m1 d1] 99))
        have HO2 := Aside0.mk (Kd.R_below (Kd.R_below HO.out hb2) (below_alloc (Below.refl _ _) (.cells #[.int .u8 x1.f0, .slice A1 m1 d1] 99)))
        have x0 : (w2.alloc (.cells #[.int .u8 x1.f0, .slice A1 m1 d1] 99)).cell? ⟨w2.heap.size, 0, none⟩ = some (.int .u8 x1.f0) := (Blk.new w2 _ #[.int .u8 x1.f0, .slice A1 m1 d1]).cell 0
        have x1' : (w2.alloc (.cells #[.int .u8 x1.f0, .slice A1 m1 d1] 99)).cell? ⟨w2.heap.size, 1, none⟩ = some (.slice A1 m1 d1) := (Blk.new w2 _ #[.int .u8 x1.f0, .slice A1 m1 d1]).cell 1
        clear hM hM2 hx hb2 HP HFM HO HB
        go_upto_region 12 with fail
        generalize w2.alloc (.cells #[.int .u8 x1.f0, .slice A1 m1 d1] 99) = W at *
        go_wp2_with ((with_reducible refine gate_builtin (b := .append) (xs := #[.tmp 33, .tmp 35]) rfl ?_); at_builtin; refine Kd.R_append kNd (w0 := w) w.heap.size rfl (.tmp 33) (.tmp 35) 52 99 (.agg #[.int .u8 0, .slice none 0 0]) 32 rfl Tryz.underlying52 infoNd rfl (by decide) (by omega) _ ((l.take k).map (ndO n)) (ndO n s) [.int .u8 x1.f0, .slice A1 m1 d1] (fun _ => True) (fun q => wr.heap.size ≤ q) rfl rfl ?aP ?aK ?aF ?aO ?aB ?aS ?aL ?_; (case aP => rw [← HX.out]; exact kNd.M_lower HBW.out HM.out); (case aK => exact (fun q hq => ⟨trivial, fun he => by have := HOW.out q he.symm; omega⟩)); (case aF => exact (fun _ _ => trivial)); (case aO => exact HO2.out); (case aB => exact HB2.out); (case aS => exact HB2.out.size); (case aL => have := HL.out; omega); intro v1 w3 ho hb _ _; rw [← HS.out] at ho; have HO3 := Aside0.mk ho; have HB3 := Aside0.mk hb; clear ho hb)
        go_roundw
        case rel => exact ⟨k + 1, by omega, by go_num, HE3, HO3, HB3⟩
        case measure => simp [intOf]; omega
      · have he2 := HE2.out
        rw [if_neg hp] at he2
        have hpb : (parseE n s != 0) = true := bne_iff_ne.2 hp
        have HE3 := Aside0.mk he2
        have HPN := Aside0.mk hp
        clear he2 HE2 HE hp HFM
        have HP2 := Aside0.mk (HP.out.mono (R' := fun e w' => ∃ (x : SNd) (A : Option Addr) (m c : Nat), e = .returned (.tuple #[.agg #[.int .u8 x.f0, .slice A m c], .int .i64 (parseE n s)]) ∧ Below wr.heap.size wr w') (fun e w' ⟨x, A, m, c, h1, _, _, h2⟩ => ⟨x, A, m, c, h1, h2⟩))
        clear HP
        generalize parseE n s = er at *
        go_wp2_with fail
        refine HP2.out.mono ?_
        rintro e w2 ⟨x1, A1, m1, d1, rfl, hb2⟩
        have HB2 := Aside0.mk (below_alloc (below_then HB.out HB.out.size hb2) (.cells #[.int .u8 x1.f0, .slice A1 m1 d1] 99))
        clear hb2
        go_wp2_with fail
        go_ret2
        exact ⟨.slice none 0 0, (by rw [HE3.out]; rfl), HB2.out, fun h => absurd (HE3.out.symm.trans h) HPN.out, fun _ => rfl⟩
    · obtain rfl : n = k := by omega
      have HF := Aside0.mk (show firstE n l = 0 by rw [HE.out, List.drop_eq_nil_of_le (by have := HN.out; omega)]; rfl)
      have htk := HO.out
      rw [List.take_of_length_le (by have := HN.out; omega)] at htk
      have HO2 := Aside0.mk htk
      clear htk HE HO
      go_wp2_with fail
      go_ret2
      exact ⟨_, (by rw [HF.out]; rfl), HB.out, fun _ => HO2.out, fun h => absurd HF.out h⟩
theorem rread_any (l : List (List UInt8)) (w : World) (A : Option Addr) (c : Nat) (hr : Kd.C Kd.string w A l.length (l.map strL)) : Calls Tryz.prog 30 #[.slice A l.length c] w (ReadP l w) := by
  by_cases h : 10 < l.length
  · exact rread_long l w A c h
  · cases l with
    | nil => exact rread_nil w A c
    | cons s t =>
      have e : sysE (s :: t) = firstE (s :: t).length (s :: t) := by unfold sysE; rw [if_neg h, if_neg (by simp)]
      have e2 : (sysF (s :: t)).map ndF = (s :: t).map (ndO (s :: t).length) := by unfold sysF; rw [List.map_map]; rfl
      refine (rread_go (s :: t) w A c (s :: t).length rfl (by simp) (by omega) hr).mono fun e' w' ⟨v, h1, h2, h3, h4⟩ => ⟨v, ?_, h2, ?_, ?_⟩
      · rw [e]; exact h1
      · rw [e, e2]; exact h3
      · rw [e]; exact h4
end Go.Proofs.YtijaefmaceolbaaGreatDoor.Im

namespace Go.Proofs.YtijaefmaceolbaaGreatDoor.Im
open Go.RowKit Go.Proofs.YtijaefmaceolbaaGreatDoorW.PrintWords Go.Proofs.YtijaefmaceolbaaGreatDoorW.PrintLast Go.Proofs.YtijaefmaceolbaaGreatDoorW.PrintMore Go.Proofs.YtijaefmaceolbaaGreatDoor.Tr
set_option linter.unusedVariables false
set_option linter.unusedSimpArgs false
set_option maxHeartbeats 800000 in
set_option maxRecDepth 100000 in
theorem rsystem_call (l : List (List UInt8)) (w : World) (A : Option Addr) (c : Nat) (hr : Kd.C Kd.string w A l.length (l.map strL)) :
    Calls Tryz.prog 9 #[.slice A l.length c] w fun e w' => e = .returned (.int .i64 (sysE l)) ∧ Below w.heap.size w w' := by
  have HR := Aside0.mk ((rread_any l w A c hr).mono (R' := fun e w' => ∃ v, e = .returned (.tuple #[v, .int .i64 (sysE l)]) ∧ Below w.heap.size w w') (fun e w' ⟨v, h1, h2, _, _⟩ => ⟨v, h1, h2⟩))
  clear hr
  generalize sysE l = x at *
  generalize l.length = n at *
  go_enter Tryz.func9, Tryz.ntmps9
  go_wp2_with fail
  refine HR.out.mono ?_
  rintro e w1 ⟨v, rfl, hb⟩
  have HB := Aside0.mk hb
  clear hb
  go_wp2_with fail
  go_ret
  exact ⟨rfl, HB.out⟩
end Go.Proofs.YtijaefmaceolbaaGreatDoor.Im

namespace Go.Proofs.YtijaefmaceolbaaGreatDoor.Im
open Go.RowKit Go.Proofs.YtijaefmaceolbaaGreatDoorW.PrintWords Go.Proofs.YtijaefmaceolbaaGreatDoorW.PrintLast Go.Proofs.YtijaefmaceolbaaGreatDoorW.PrintMore Go.Proofs.YtijaefmaceolbaaGreatDoor.Tr
set_option linter.unusedVariables false
set_option linter.unusedSimpArgs false
theorem strs_of (l : List ByteArray) : ∃ L : List (List UInt8), l = L.map strL := ⟨l.map fun s => s.data.toList, by
  rw [List.map_map]
  exact (List.map_id _).symm.trans (List.map_congr_left fun s _ => by simp [strL])⟩
theorem strV_one (i : Nat) : strV (noneV i) ++ ⟨#[63]⟩ = strV (noneV (i + 1)) := by
  have h := strV_snoc (noneV i) none
  have e : noneV (i + 1) = noneV i ++ [none] := List.replicate_succ'
  rw [e, ← h]
  rfl
theorem none_l0 {n : Nat} (hn : n ≤ 10) : ∀ (d i : Nat), i + d = n → Gives (fun k => pomadelaw01_none.l0 k (n : Int) (strV (noneV i)) i) (strV (noneV n))
  | 0, i, h => Gives.now fun k => by
    simp only [pomadelaw01_none.l0]
    rw [if_neg (by omega), show i = n by omega]
  | d + 1, i, h => (none_l0 hn d (i + 1) (by omega)).step fun k hk => by
    simp only [pomadelaw01_none.l0]
    rw [if_pos (by omega), if_pos (by omega), if_pos (by rw [strV_size]; simp [noneV]; omega), strV_one, wr_succ i (by omega)]
    exact hk
theorem none_any (n : Nat) (hn : n ≤ 10) (w : World) : Calls Tryz.prog 10 #[.int .i64 (n : Int)] w fun e w' => e = .returned (.string (strV (noneV n))) ∧ Below w.heap.size w w' := by
  obtain ⟨k, hk⟩ := none_l0 hn n 0 (by omega)
  exact (pomadelaw01_none.calls k n _ w (hk k (Nat.le_refl _))).mono fun e w' ⟨h1, h2⟩ => ⟨h1, h2.below⟩
def totB (v : List T3) : Bool := v.all (· != none)
theorem totB_iff {v : List T3} : totB v = true ↔ totV v := by
  unfold totB totV
  rw [List.all_eq_true]
  exact ⟨fun h x hx e => (by have := h x hx; rw [e] at this; cases this), fun h x hx => bne_iff_ne.2 (h x hx)⟩
theorem vals_tot : ∀ n, (valsB base3 n).filter totB = valsB base2 n
  | 0 => rfl
  | n + 1 => by
    have ih := vals_tot n
    have e : ∀ b : Bool, (totB ∘ (List.cons (some b))) = totB := fun b => by funext v; simp [totB]
    have e0 : (totB ∘ (List.cons (none : T3))) = fun _ => false := by funext v; simp [totB]
    show ((valsB base3 n).map (some false :: ·) ++ ((valsB base3 n).map (some true :: ·) ++ ((valsB base3 n).map (none :: ·) ++ []))).filter totB = (valsB base2 n).map (some false :: ·) ++ ((valsB base2 n).map (some true :: ·) ++ [])
    rw [List.filter_append, List.filter_append, List.filter_append, List.filter_map, List.filter_map, List.filter_map, e, e, e0, ih]
    simp
theorem fix_tot {n : Nat} {fs : List Fm} (S : Tr.Sys n fs) : (fixL fs).filter totB = conL n fs := by
  unfold fixL conL
  rw [S.len, List.filter_filter]
  rw [← vals_tot n, List.filter_filter]
  apply List.filter_congr
  intro v _
  rw [Bool.and_comm]
def whC (fs : List Fm) (i : Nat) : Nat := ((fixL fs).take i).countP totB
theorem whC_zero (fs : List Fm) : whC fs 0 = 0 := by simp [whC]
theorem whC_succ {fs : List Fm} {i : Nat} (h : i < (fixL fs).length) : whC fs (i + 1) = whC fs i + if totB ((fixL fs).getD i []) then 1 else 0 := by
  unfold whC
  rw [List.take_succ_eq_append_getElem h, List.countP_append, List.getD_eq_getElem?_getD, List.getElem?_eq_getElem h]
  simp [List.countP_cons]
theorem whC_all {n : Nat} {fs : List Fm} (S : Tr.Sys n fs) : whC fs (fixL fs).length = (conL n fs).length := by
  unfold whC
  rw [List.take_of_length_le (Nat.le_refl _), List.countP_eq_length_filter, fix_tot S]
theorem whC_le (fs : List Fm) (i : Nat) : whC fs i ≤ i := by
  unfold whC
  exact Nat.le_trans List.countP_le_length (by rw [List.length_take]; omega)
theorem first_con {l : List (List UInt8)} (h0 : sysE l = 0) : firstO l = (match (conL l.length (sysF l)).head? with | some v => (strV v, 0) | none => (str0, 10)) := by
  unfold firstO conL
  rw [if_pos h0, List.head?_filter]
  cases List.find? (fixB (sysF l)) (valsB base2 l.length) <;> rfl
theorem first_wh {l : List (List UInt8)} (h0 : sysE l = 0) {i : Nat} (h : i < (fixL (sysF l)).length) (hw : whC (sysF l) i = 0) (ht : totB ((fixL (sysF l)).getD i []) = true) : (firstO l).1 = strV ((fixL (sysF l)).getD i []) := by
  have S := sys_ok h0
  have e : (conL l.length (sysF l)).head? = some ((fixL (sysF l)).getD i []) := by
    rw [← fix_tot S]
    have e1 : fixL (sysF l) = (fixL (sysF l)).take i ++ (fixL (sysF l)).getD i [] :: (fixL (sysF l)).drop (i + 1) := by
      rw [List.getD_eq_getElem?_getD, List.getElem?_eq_getElem h]
      simp
    have e2 : ((fixL (sysF l)).take i).filter totB = [] := by
      unfold whC at hw
      rw [List.countP_eq_length_filter] at hw
      exact List.length_eq_zero_iff.1 hw
    generalize (fixL (sysF l)).getD i [] = x at *
    rw [e1, List.filter_append, e2, List.nil_append, List.filter_cons_of_pos ht]
    rfl
  rw [first_con h0, e]
theorem first_err {l : List (List UInt8)} (h0 : sysE l = 0) : ((firstO l).2 == 0) = decide (0 < (((conL l.length (sysF l)).length : Nat) : Int)) := by
  rw [first_con h0]
  cases h : conL l.length (sysF l) with
  | nil => rfl
  | cons v t =>
    show ((0 : Int) == 0) = _
    rw [decide_eq_true (by simp)]
    rfl
theorem whole_strV {v : List T3} {n : Nat} (hv : v.length = n) : valB [48, 49] n (strV v) = totB v := by
  cases h : totB v
  · cases h2 : valB [48, 49] n (strV v)
    · rfl
    · obtain ⟨u, _, hu, e⟩ := valB2 h2
      rw [strV_inj e, totB_iff.2 hu] at h
      cases h
  · have := valB2_strV (totB_iff.1 h)
    rw [hv] at this
    exact this
theorem fixL_len {fs : List Fm} {i : Nat} (h : i < (fixL fs).length) : isFix fs ((fixL fs).getD i []) := by
  have hm : (fixL fs).getD i [] ∈ fixL fs := by rw [List.getD_eq_getElem?_getD, List.getElem?_eq_getElem h]; exact List.getElem_mem h
  exact mem_fixL.1 hm
end Go.Proofs.YtijaefmaceolbaaGreatDoor.Im

namespace Go.Proofs.YtijaefmaceolbaaGreatDoor.Im
open Go.RowKit Go.Proofs.YtijaefmaceolbaaGreatDoorW.PrintWords Go.Proofs.YtijaefmaceolbaaGreatDoorW.PrintLast Go.Proofs.YtijaefmaceolbaaGreatDoorW.PrintMore Go.Proofs.YtijaefmaceolbaaGreatDoor.Tr
set_option linter.unusedVariables false
set_option linter.unusedSimpArgs false
set_option maxHeartbeats 12800000 in
set_option maxRecDepth 100000 in
theorem kripke_a (fo : List (List T3) × Int) (n N : Nat) (fe : Int) (fi s sl : ByteArray) (fs : List Fm) (A : Option Addr) (c : Nat) (w : World) (LS : List ByteArray) (n10 : n ≤ 10) (hss : s.size ≤ 100) (HFL : Aside0 (fs.length = n))
    (HF : Aside0 (Calls Tryz.prog 6 #[.slice A n c] w fun e w' => e = .returned (.bool true) ∧ Below w.heap.size w w'))
    (HR : Aside0 (Kd.C Kd.string w A n LS))
    (HL : Aside0 (∀ w1, Kd.C Kd.string w1 A n LS → Calls Tryz.prog 8 #[.slice A n c] w1 (OutS (sl, 0) w1)))
    (HS : Aside0 (∀ w1, Kd.C Kd.string w1 A n LS → Calls Tryz.prog 9 #[.slice A n c] w1 fun e w' => e = .returned (.int .i64 0) ∧ Below w1.heap.size w1 w'))
    (HN : Aside0 (∀ w1, Calls Tryz.prog 10 #[.int .i64 (n : Int)] w1 fun e w' => e = .returned (.string (strV (noneV n))) ∧ Below w1.heap.size w1 w'))
    (HVF : Aside0 (∀ u : List T3, u.length = n → ∀ w1, Kd.C Kd.string w1 A n LS → Calls Tryz.prog 11 #[.slice A n c, .string (strV u)] w1 (OutS (strV (nextV fs u), 0) w1)))
    (HIT : Aside0 (∀ i, (iterV fs i (noneV n)).length = n))
    (HLI : Aside0 (strV (iterV fs n (noneV n)) = sl))
    (HVL : Aside0 (∀ w1, Kd.C Kd.string w1 A n LS → Calls Tryz.prog 11 #[.slice A n c, .string sl] w1 (OutS (sl, 0) w1)))
    (HVX : Aside0 (∀ w1, Kd.C Kd.string w1 A n LS → Calls Tryz.prog 13 #[.slice A n c] w1 (OutT fo w1)))
    (HFE : Aside0 (fo = if 1000 < (fixL fs).length then ([], 8) else (fixL fs, 0)))
    (HVC : Aside0 (∀ w1, Kd.C Kd.string w1 A n LS → Calls Tryz.prog 14 #[.slice A n c] w1 (OutI ((N : Int), 0) w1)))
    (HVG : Aside0 (∀ w1, Kd.C Kd.string w1 A n LS → Calls Tryz.prog 15 #[.slice A n c] w1 (OutS (fi, fe) w1)))
    (HFI : Aside0 (∀ i, i < (fixL fs).length → whC fs i = 0 → totB ((fixL fs).getD i []) = true → fi = strV ((fixL fs).getD i [])))
    (HFR : Aside0 ((fe == 0) = decide (0 < (N : Int))))
    (HWA : Aside0 (whC fs (fixL fs).length = N))
    (HEX : Aside0 (∀ x, isFix fs x → ∀ w1, Calls Tryz.prog 12 #[.string (strV x), .string sl] w1 fun e w' => e = .returned (.bool true) ∧ Below w1.heap.size w1 w'))
    (HWH : Aside0 (∀ s w1, Calls Tryz.prog 16 #[.string s, .int .i64 (n : Int)] w1 fun e w' => e = .returned (.bool (valB [48, 49] n s)) ∧ Below w1.heap.size w1 w'))
    (HVS : Aside0 (∀ w1, Kd.C Kd.string w1 A n LS → Calls Tryz.prog 11 #[.slice A n c, .string s] w1 (OutS (str0, 2) w1))) :
    Calls Tryz.prog 3 #[.slice A n c, .string s] w fun e w' => e = .returned (.bool true) ∧ Below w.heap.size w w' := by
  have n0 : (0 : Int) ≤ (n : Int) := by omega
  have s0 : (0 : Int) ≤ (s.size : Int) := by omega
  have ts : decide (100 < (s.size : Int)) = false := decide_eq_false (by omega)
  have ts' : decide (100 < s.size) = false := decide_eq_false (by omega)
  have H0 := Aside0.mk (show Value.string (strV (noneV n)) = .string (strV (iterV fs 0 (noneV n))) from rfl)
  have HW0 := Aside0.mk (show Value.int .i64 0 = .int .i64 (whC fs 0 : Int) by rw [whC_zero]; rfl)
  have hself : (sl.toList == sl.toList) = true := by simp
  have hself2 : (sl.toList != sl.toList) = false := by simp
  go_enter Tryz.func3, Tryz.ntmps3
  go_wp2_with fail
  refine HF.out.mono ?_
  rintro e w1 ⟨rfl, hb1⟩
  have HB1 := Aside0.mk hb1
  have HR1 := Aside0.mk (Kd.C_below HR.out hb1)
  clear hb1
  go_wp2_with fail
  refine (HL.out _ HR1.out).mono ?_
  rintro e w2 ⟨rfl, hb2⟩
  have HB2 := Aside0.mk (below_then HB1.out HB1.out.size hb2)
  have HR2 := Aside0.mk (Kd.C_below HR1.out hb2)
  clear hb2 HB1 HR1
  go_wp2_with fail
  refine (HS.out _ HR2.out).mono ?_
  rintro e w3 ⟨rfl, hb3⟩
  have HB3 := Aside0.mk (below_then HB2.out HB2.out.size hb3)
  have HR3 := Aside0.mk (Kd.C_below HR2.out hb3)
  clear hb3 HB2 HR2
  go_wp2_with fail
  refine (HN.out _).mono ?_
  rintro e w4 ⟨rfl, hb4⟩
  have HB4 := Aside0.mk (below_then HB3.out HB3.out.size hb4)
  have HR4 := Aside0.mk (Kd.C_below HR3.out hb4)
  clear hb4 HB3 HR3
  go_wp2_with fail
  have HBR := Aside0.mk (Below.refl w4.heap.size w4)
  go_loopw [7, 8] (fun v7 v8 wr => ∃ i : Nat, i ≤ n ∧ v7 = .string (strV (iterV fs i (noneV n))) ∧ v8 = .int .i64 (i : Int) ∧ Aside0 (Below w4.heap.size w4 wr)) (fun _ v8 _ => n - (intOf v8).toNat)
  case atStart => exact ⟨0, by omega, H0.out, rfl, HBR⟩
  case round =>
    clear HBR
    obtain ⟨i, hi, rfl, rfl, HBI⟩ := hrel
    have i0 : (0 : Int) ≤ (i : Int) := by omega
    by_cases hin : i < n
    · have hin' : (i : Int) < (n : Int) := by omega
      have HVK := Aside0.mk (HVF.out (iterV fs i (noneV n)) (HIT.out i) wr (Kd.C_below HR4.out HBI.out))
      have hnx : strV (nextV fs (iterV fs i (noneV n))) = strV (iterV fs (i + 1) (noneV n)) := rfl
      rw [hnx] at HVK
      obtain ⟨sx, hsx⟩ : ∃ x, strV (iterV fs (i + 1) (noneV n)) = x := ⟨_, rfl⟩
      rw [hsx] at HVK
      have HSX := Aside0.mk hsx
      clear hnx hsx
      generalize strV (iterV fs i (noneV n)) = sk at *
      go_wp2_with fail
      refine HVK.out.mono ?_
      rintro e w5 ⟨rfl, hb5⟩
      have HB5 := Aside0.mk (below_then HBI.out HBI.out.size hb5)
      clear hb5
      go_wp2_with fail
      go_roundw
      case rel => exact ⟨i + 1, by omega, by rw [HSX.out], by go_num, HB5⟩
      case measure => simp [intOf]; omega
    · obtain rfl : n = i := by omega
      clear hin
      rw [HLI.out]
      have HR5 := Aside0.mk (Kd.C_below HR4.out HBI.out)
      have HB5 := Aside0.mk (below_then HB4.out HB4.out.size HBI.out)
      clear HBI HR4 HB4 HIT
      go_wp2_with fail
      refine (HVL.out _ HR5.out).mono ?_
      rintro e w6 ⟨rfl, hb6⟩
      have HB6 := Aside0.mk (below_then HB5.out HB5.out.size hb6)
      have HR6 := Aside0.mk (Kd.C_below HR5.out hb6)
      clear hb6 HB5 HR5
      go_wp2_with fail
      refine (HVS.out _ HR6.out).mono ?_
      rintro e w7 ⟨rfl, hb7⟩
      have HB7 := Aside0.mk (below_then HB6.out HB6.out.size hb7)
      have HR7 := Aside0.mk (Kd.C_below HR6.out hb7)
      clear hb7 HB6 HR6
      by_cases h7 : n ≤ 7
      · have z7 : decide (7 < (n : Int)) = false := decide_eq_false (by omega)
        have z7' : decide (7 < n) = false := decide_eq_false (by omega)
        by_cases hm : 1000 < (fixL fs).length
        · rw [HFE.out, if_pos hm] at HVX
          go_wp2_with fail
          refine (HVX.out _ HR7.out).mono ?_
          rintro e w8 ⟨v9, rfl, hv9, hb8⟩
          have HB8 := Aside0.mk (below_then HB7.out HB7.out.size hb8)
          have HR8 := Aside0.mk (Kd.C_below HR7.out hb8)
          obtain ⟨A9, c9, rfl⟩ := Kd.R_slice hv9
          clear hv9
          clear hb8 HB7 HR7
          go_wp2_with fail
          refine (HVC.out _ HR8.out).mono ?_
          rintro e w9 ⟨rfl, hb9⟩
          have HB9 := Aside0.mk (below_then HB8.out HB8.out.size hb9)
          have HR9 := Aside0.mk (Kd.C_below HR8.out hb9)
          clear hb9 HB8 HR8
          go_wp2_with fail
          refine (HVG.out _ HR9.out).mono ?_
          rintro e w10 ⟨rfl, hb10⟩
          have HB10 := Aside0.mk (below_then HB9.out HB9.out.size hb10)
          have HR10 := Aside0.mk (Kd.C_below HR9.out hb10)
          clear hb10 HB9 HR9
          go_wp2_with fail
          refine (alive_any _).mono ?_
          rintro e w20 ⟨rfl, hb20⟩
          have HB20 := Aside0.mk (below_then HB10.out HB10.out.size hb20)
          clear hb20
          go_wp2_with fail
          go_ret
          exact ⟨rfl, HB20.out⟩
        · rw [HFE.out, if_neg hm] at HVX
          obtain ⟨m, hml2⟩ : ∃ m, (fixL fs).length = m := ⟨_, rfl⟩
          have HML := Aside0.mk hml2
          rw [hml2] at hm HFI HWA
          clear hml2
          go_wp2_with fail
          refine (HVX.out _ HR7.out).mono ?_
          rintro e w8 ⟨v9, rfl, hv9, hb8⟩
          have HB8 := Aside0.mk (below_then HB7.out HB7.out.size hb8)
          have HR8 := Aside0.mk (Kd.C_below HR7.out hb8)
          obtain ⟨A9, c9, rfl, hl9, hC9⟩ := Kd.R_reads hv9
          rw [List.length_map] at hl9 hC9
          have HP9 := Aside0.mk hC9
          clear hv9 hl9 hC9
          clear hb8 HB7 HR7
          go_wp2_with fail
          refine (HVC.out _ HR8.out).mono ?_
          rintro e w9 ⟨rfl, hb9⟩
          have HB9 := Aside0.mk (below_then HB8.out HB8.out.size hb9)
          have HR9 := Aside0.mk (Kd.C_below HR8.out hb9)
          have HP10 := Aside0.mk (Kd.C_below HP9.out hb9)
          clear hb9 HB8 HR8
          go_wp2_with fail
          refine (HVG.out _ HR9.out).mono ?_
          rintro e w10 ⟨rfl, hb10⟩
          have HB10 := Aside0.mk (below_then HB9.out HB9.out.size hb10)
          have HR10 := Aside0.mk (Kd.C_below HR9.out hb10)
          have HP11 := Aside0.mk (Kd.C_below HP10.out hb10)
          clear hb10 HB9 HR9
          (try rw [List.length_map])
          rw [HML.out]
          rw [HML.out] at HP11
          clear HP9 HP10
          have m0 : m ≤ 1000 := by omega
          have HBR := Aside0.mk (Below.refl w10.heap.size w10)
          go_wp2_with fail
          go_loopw [19, 20] (fun v19 v20 wr => ∃ i : Nat, i ≤ m ∧ v19 = .int .i64 (whC fs i : Int) ∧ v20 = .int .i64 (i : Int) ∧ Aside0 (Below w10.heap.size w10 wr)) (fun _ v20 _ => m - (intOf v20).toNat)
          case atStart => exact ⟨0, by omega, HW0.out, rfl, HBR⟩
          case round =>
            clear HBR
            obtain ⟨i, hi, rfl, rfl, HBI⟩ := hrel
            have i0 : (0 : Int) ≤ (i : Int) := by omega
            by_cases him : i < m
            · have him' : (i : Int) < (m : Int) := by omega
              obtain ⟨ad, rfl, cp⟩ := Kd.at_string HP11.out (i : Int) i0 him'
              rw [Int.toNat_natCast] at cp
              have er : rdOf ByteArray.empty ((fixL fs).map strV) (i : Int) = strV ((fixL fs).getD i []) := by
                have hl : i < (fixL fs).length := by rw [HML.out]; exact him
                simp [rdOf, hl]
              rw [er] at cp
              obtain ⟨x, hx⟩ : ∃ x, (fixL fs).getD i [] = x := ⟨_, rfl⟩
              have hfx : isFix fs x := by rw [← hx]; exact fixL_len (by rw [HML.out]; exact him)
              have hxl : x.length = n := by rw [hfx.len, HFL.out]
              have HWI := Aside0.mk (show whC fs (i + 1) = whC fs i + if totB x then 1 else 0 by rw [← hx]; exact whC_succ (by rw [HML.out]; exact him))
              have HFX := Aside0.mk (show whC fs i = 0 → totB x = true → fi = strV x from fun h1 h2 => by rw [← hx]; exact HFI.out i him h1 (by rw [hx]; exact h2))
              have HVK := Aside0.mk (fun (w8 : World) (h : Below w10.heap.size w10 w8) => (HVF.out x hxl w8 (Kd.C_below HR10.out h)))
              have HXK := Aside0.mk (fun (w8 : World) => HEX.out x hfx w8)
              have HWK := Aside0.mk (fun (w8 : World) => (show Calls Tryz.prog _ _ w8 _ from whole_strV hxl ▸ HWH.out (strV x) w8))
              have hwl := whC_le fs i
              rw [hx] at cp
              rw [show nextV fs x = x from hfx] at HVK
              have HCE := Aside0.mk (fun (w8 : World) (h : Below w10.heap.size w10 w8) => pw_cell_below h cp)
              have cp0 := HCE.out _ HBI.out
              clear cp
              have hsel : ((strV x).toList == (strV x).toList) = true := by simp
              have hsel2 : ((strV x).toList != (strV x).toList) = false := by simp
              clear hx hfx hxl er
              generalize totB x = tx at *
              generalize strV x = sx at *
              generalize hq : whC fs i = q at *
              clear hq
              have q0 : (0 : Int) ≤ (q : Int) := by omega
              have q1 : q ≤ 1000 := by omega
              go_wp2_with fail
              refine (HVK.out _ HBI.out).mono ?_
              rintro e w30 ⟨rfl, hb30⟩
              have HBJ := Aside0.mk (below_then HBI.out HBI.out.size hb30)
              have cp30 := HCE.out _ HBJ.out
              clear hb30
              go_wp2_with fail
              refine (HXK.out _).mono ?_
              rintro e w31 ⟨rfl, hb31⟩
              have HBJ2 := Aside0.mk (below_then HBJ.out HBJ.out.size hb31)
              have cp31 := HCE.out _ HBJ2.out
              clear hb31
              go_wp2_with fail
              refine (HWK.out _).mono ?_
              rintro e w32 ⟨rfl, hb32⟩
              have HBJ3 := Aside0.mk (below_then HBJ2.out HBJ2.out.size hb32)
              have cp32 := HCE.out _ HBJ3.out
              clear hb32
              cases tx
              · have HWJ := Aside0.mk (show whC fs (i + 1) = q from HWI.out)
                go_wp2_with fail
                go_roundw
                case rel => exact ⟨i + 1, by omega, by rw [HWJ.out], by go_num, HBJ3⟩
                case measure => simp [intOf]; omega
              · have HWJ := Aside0.mk (show whC fs (i + 1) = q + 1 from HWI.out)
                have qw : wrap64 ((q : Int) + 1) = (q : Int) + 1 := by unfold wrap64; omega
                by_cases hq0 : q = 0
                · have qe : ((q : Int) + 1 == 1) = true := beq_iff_eq.2 (by omega)
                  have hfe := HFX.out hq0 rfl
                  have hse : (sx.toList == fi.toList) = true := by rw [hfe]; simp
                  clear hfe hq0
                  go_wp2_with fail
                  go_roundw
                  case rel => exact ⟨i + 1, by omega, by rw [HWJ.out]; rfl, by go_num, HBJ3⟩
                  case measure => simp [intOf]; omega
                · have qe : ((q : Int) + 1 == 1) = false := beq_eq_false_iff_ne.2 (by omega)
                  clear hq0
                  go_wp2_with fail
                  go_roundw
                  case rel => exact ⟨i + 1, by omega, by rw [HWJ.out]; rfl, by go_num, HBJ3⟩
                  case measure => simp [intOf]; omega
            · obtain rfl : m = i := by omega
              clear him
              rw [HWA.out]
              have hnn : ((N : Int) == (N : Int)) = true := by simp
              obtain ⟨b, hb⟩ : ∃ b, decide (0 < (N : Int)) = b := ⟨_, rfl⟩
              have hb2 : (fe == 0) = b := by rw [HFR.out]; exact hb
              have hb3 : decide (0 < N) = b := by rw [← hb]; simp
              have hbb : (b == b) = true := by cases b <;> rfl
              go_wp2_with fail
              refine (alive_any _).mono ?_
              rintro e w40 ⟨rfl, hb40⟩
              have HB40 := Aside0.mk (below_then HB10.out HB10.out.size (below_then HBI.out HBI.out.size hb40))
              clear hb40
              go_wp2_with fail
              go_ret
              exact ⟨rfl, HB40.out⟩
      · have z7 : decide (7 < (n : Int)) = true := decide_eq_true (by omega)
        have z7' : decide (7 < n) = true := decide_eq_true (by omega)
        go_wp2_with fail
        refine (alive_any _).mono ?_
        rintro e w20 ⟨rfl, hb20⟩
        have HB20 := Aside0.mk (below_then HB7.out HB7.out.size hb20)
        clear hb20
        go_wp2_with fail
        go_ret
        exact ⟨rfl, HB20.out⟩
set_option maxHeartbeats 12800000 in
set_option maxRecDepth 100000 in
theorem kripke_b (fo : List (List T3) × Int) (n N : Nat) (fe : Int) (fi s sl : ByteArray) (fs : List Fm) (A : Option Addr) (c : Nat) (w : World) (LS : List ByteArray) (n10 : n ≤ 10) (hss : s.size ≤ 100) (HFL : Aside0 (fs.length = n))
    (HF : Aside0 (Calls Tryz.prog 6 #[.slice A n c] w fun e w' => e = .returned (.bool true) ∧ Below w.heap.size w w'))
    (HR : Aside0 (Kd.C Kd.string w A n LS))
    (HL : Aside0 (∀ w1, Kd.C Kd.string w1 A n LS → Calls Tryz.prog 8 #[.slice A n c] w1 (OutS (sl, 0) w1)))
    (HS : Aside0 (∀ w1, Kd.C Kd.string w1 A n LS → Calls Tryz.prog 9 #[.slice A n c] w1 fun e w' => e = .returned (.int .i64 0) ∧ Below w1.heap.size w1 w'))
    (HN : Aside0 (∀ w1, Calls Tryz.prog 10 #[.int .i64 (n : Int)] w1 fun e w' => e = .returned (.string (strV (noneV n))) ∧ Below w1.heap.size w1 w'))
    (HVF : Aside0 (∀ u : List T3, u.length = n → ∀ w1, Kd.C Kd.string w1 A n LS → Calls Tryz.prog 11 #[.slice A n c, .string (strV u)] w1 (OutS (strV (nextV fs u), 0) w1)))
    (HIT : Aside0 (∀ i, (iterV fs i (noneV n)).length = n))
    (HLI : Aside0 (strV (iterV fs n (noneV n)) = sl))
    (HVL : Aside0 (∀ w1, Kd.C Kd.string w1 A n LS → Calls Tryz.prog 11 #[.slice A n c, .string sl] w1 (OutS (sl, 0) w1)))
    (HVX : Aside0 (∀ w1, Kd.C Kd.string w1 A n LS → Calls Tryz.prog 13 #[.slice A n c] w1 (OutT fo w1)))
    (HFE : Aside0 (fo = if 1000 < (fixL fs).length then ([], 8) else (fixL fs, 0)))
    (HVC : Aside0 (∀ w1, Kd.C Kd.string w1 A n LS → Calls Tryz.prog 14 #[.slice A n c] w1 (OutI ((N : Int), 0) w1)))
    (HVG : Aside0 (∀ w1, Kd.C Kd.string w1 A n LS → Calls Tryz.prog 15 #[.slice A n c] w1 (OutS (fi, fe) w1)))
    (HFI : Aside0 (∀ i, i < (fixL fs).length → whC fs i = 0 → totB ((fixL fs).getD i []) = true → fi = strV ((fixL fs).getD i [])))
    (HFR : Aside0 ((fe == 0) = decide (0 < (N : Int))))
    (HWA : Aside0 (whC fs (fixL fs).length = N))
    (HEX : Aside0 (∀ x, isFix fs x → ∀ w1, Calls Tryz.prog 12 #[.string (strV x), .string sl] w1 fun e w' => e = .returned (.bool true) ∧ Below w1.heap.size w1 w'))
    (HWH : Aside0 (∀ s w1, Calls Tryz.prog 16 #[.string s, .int .i64 (n : Int)] w1 fun e w' => e = .returned (.bool (valB [48, 49] n s)) ∧ Below w1.heap.size w1 w'))
    (s2 : ByteArray) (hs2 : (s2.toList == s.toList) = false) (HVS : Aside0 (∀ w1, Kd.C Kd.string w1 A n LS → Calls Tryz.prog 11 #[.slice A n c, .string s] w1 (OutS (s2, 0) w1))) :
    Calls Tryz.prog 3 #[.slice A n c, .string s] w fun e w' => e = .returned (.bool true) ∧ Below w.heap.size w w' := by
  have n0 : (0 : Int) ≤ (n : Int) := by omega
  have s0 : (0 : Int) ≤ (s.size : Int) := by omega
  have ts : decide (100 < (s.size : Int)) = false := decide_eq_false (by omega)
  have ts' : decide (100 < s.size) = false := decide_eq_false (by omega)
  have H0 := Aside0.mk (show Value.string (strV (noneV n)) = .string (strV (iterV fs 0 (noneV n))) from rfl)
  have HW0 := Aside0.mk (show Value.int .i64 0 = .int .i64 (whC fs 0 : Int) by rw [whC_zero]; rfl)
  have hself : (sl.toList == sl.toList) = true := by simp
  have hself2 : (sl.toList != sl.toList) = false := by simp
  go_enter Tryz.func3, Tryz.ntmps3
  go_wp2_with fail
  refine HF.out.mono ?_
  rintro e w1 ⟨rfl, hb1⟩
  have HB1 := Aside0.mk hb1
  have HR1 := Aside0.mk (Kd.C_below HR.out hb1)
  clear hb1
  go_wp2_with fail
  refine (HL.out _ HR1.out).mono ?_
  rintro e w2 ⟨rfl, hb2⟩
  have HB2 := Aside0.mk (below_then HB1.out HB1.out.size hb2)
  have HR2 := Aside0.mk (Kd.C_below HR1.out hb2)
  clear hb2 HB1 HR1
  go_wp2_with fail
  refine (HS.out _ HR2.out).mono ?_
  rintro e w3 ⟨rfl, hb3⟩
  have HB3 := Aside0.mk (below_then HB2.out HB2.out.size hb3)
  have HR3 := Aside0.mk (Kd.C_below HR2.out hb3)
  clear hb3 HB2 HR2
  go_wp2_with fail
  refine (HN.out _).mono ?_
  rintro e w4 ⟨rfl, hb4⟩
  have HB4 := Aside0.mk (below_then HB3.out HB3.out.size hb4)
  have HR4 := Aside0.mk (Kd.C_below HR3.out hb4)
  clear hb4 HB3 HR3
  go_wp2_with fail
  have HBR := Aside0.mk (Below.refl w4.heap.size w4)
  go_loopw [7, 8] (fun v7 v8 wr => ∃ i : Nat, i ≤ n ∧ v7 = .string (strV (iterV fs i (noneV n))) ∧ v8 = .int .i64 (i : Int) ∧ Aside0 (Below w4.heap.size w4 wr)) (fun _ v8 _ => n - (intOf v8).toNat)
  case atStart => exact ⟨0, by omega, H0.out, rfl, HBR⟩
  case round =>
    clear HBR
    obtain ⟨i, hi, rfl, rfl, HBI⟩ := hrel
    have i0 : (0 : Int) ≤ (i : Int) := by omega
    by_cases hin : i < n
    · have hin' : (i : Int) < (n : Int) := by omega
      have HVK := Aside0.mk (HVF.out (iterV fs i (noneV n)) (HIT.out i) wr (Kd.C_below HR4.out HBI.out))
      have hnx : strV (nextV fs (iterV fs i (noneV n))) = strV (iterV fs (i + 1) (noneV n)) := rfl
      rw [hnx] at HVK
      obtain ⟨sx, hsx⟩ : ∃ x, strV (iterV fs (i + 1) (noneV n)) = x := ⟨_, rfl⟩
      rw [hsx] at HVK
      have HSX := Aside0.mk hsx
      clear hnx hsx
      generalize strV (iterV fs i (noneV n)) = sk at *
      go_wp2_with fail
      refine HVK.out.mono ?_
      rintro e w5 ⟨rfl, hb5⟩
      have HB5 := Aside0.mk (below_then HBI.out HBI.out.size hb5)
      clear hb5
      go_wp2_with fail
      go_roundw
      case rel => exact ⟨i + 1, by omega, by rw [HSX.out], by go_num, HB5⟩
      case measure => simp [intOf]; omega
    · obtain rfl : n = i := by omega
      clear hin
      rw [HLI.out]
      have HR5 := Aside0.mk (Kd.C_below HR4.out HBI.out)
      have HB5 := Aside0.mk (below_then HB4.out HB4.out.size HBI.out)
      clear HBI HR4 HB4 HIT
      go_wp2_with fail
      refine (HVL.out _ HR5.out).mono ?_
      rintro e w6 ⟨rfl, hb6⟩
      have HB6 := Aside0.mk (below_then HB5.out HB5.out.size hb6)
      have HR6 := Aside0.mk (Kd.C_below HR5.out hb6)
      clear hb6 HB5 HR5
      go_wp2_with fail
      refine (HVS.out _ HR6.out).mono ?_
      rintro e w7 ⟨rfl, hb7⟩
      have HB7 := Aside0.mk (below_then HB6.out HB6.out.size hb7)
      have HR7 := Aside0.mk (Kd.C_below HR6.out hb7)
      clear hb7 HB6 HR6
      by_cases h7 : n ≤ 7
      · have z7 : decide (7 < (n : Int)) = false := decide_eq_false (by omega)
        have z7' : decide (7 < n) = false := decide_eq_false (by omega)
        by_cases hm : 1000 < (fixL fs).length
        · rw [HFE.out, if_pos hm] at HVX
          go_wp2_with fail
          refine (HVX.out _ HR7.out).mono ?_
          rintro e w8 ⟨v9, rfl, hv9, hb8⟩
          have HB8 := Aside0.mk (below_then HB7.out HB7.out.size hb8)
          have HR8 := Aside0.mk (Kd.C_below HR7.out hb8)
          obtain ⟨A9, c9, rfl⟩ := Kd.R_slice hv9
          clear hv9
          clear hb8 HB7 HR7
          go_wp2_with fail
          refine (HVC.out _ HR8.out).mono ?_
          rintro e w9 ⟨rfl, hb9⟩
          have HB9 := Aside0.mk (below_then HB8.out HB8.out.size hb9)
          have HR9 := Aside0.mk (Kd.C_below HR8.out hb9)
          clear hb9 HB8 HR8
          go_wp2_with fail
          refine (HVG.out _ HR9.out).mono ?_
          rintro e w10 ⟨rfl, hb10⟩
          have HB10 := Aside0.mk (below_then HB9.out HB9.out.size hb10)
          have HR10 := Aside0.mk (Kd.C_below HR9.out hb10)
          clear hb10 HB9 HR9
          go_wp2_with fail
          refine (alive_any _).mono ?_
          rintro e w20 ⟨rfl, hb20⟩
          have HB20 := Aside0.mk (below_then HB10.out HB10.out.size hb20)
          clear hb20
          go_wp2_with fail
          go_ret
          exact ⟨rfl, HB20.out⟩
        · rw [HFE.out, if_neg hm] at HVX
          obtain ⟨m, hml2⟩ : ∃ m, (fixL fs).length = m := ⟨_, rfl⟩
          have HML := Aside0.mk hml2
          rw [hml2] at hm HFI HWA
          clear hml2
          go_wp2_with fail
          refine (HVX.out _ HR7.out).mono ?_
          rintro e w8 ⟨v9, rfl, hv9, hb8⟩
          have HB8 := Aside0.mk (below_then HB7.out HB7.out.size hb8)
          have HR8 := Aside0.mk (Kd.C_below HR7.out hb8)
          obtain ⟨A9, c9, rfl, hl9, hC9⟩ := Kd.R_reads hv9
          rw [List.length_map] at hl9 hC9
          have HP9 := Aside0.mk hC9
          clear hv9 hl9 hC9
          clear hb8 HB7 HR7
          go_wp2_with fail
          refine (HVC.out _ HR8.out).mono ?_
          rintro e w9 ⟨rfl, hb9⟩
          have HB9 := Aside0.mk (below_then HB8.out HB8.out.size hb9)
          have HR9 := Aside0.mk (Kd.C_below HR8.out hb9)
          have HP10 := Aside0.mk (Kd.C_below HP9.out hb9)
          clear hb9 HB8 HR8
          go_wp2_with fail
          refine (HVG.out _ HR9.out).mono ?_
          rintro e w10 ⟨rfl, hb10⟩
          have HB10 := Aside0.mk (below_then HB9.out HB9.out.size hb10)
          have HR10 := Aside0.mk (Kd.C_below HR9.out hb10)
          have HP11 := Aside0.mk (Kd.C_below HP10.out hb10)
          clear hb10 HB9 HR9
          (try rw [List.length_map])
          rw [HML.out]
          rw [HML.out] at HP11
          clear HP9 HP10
          have m0 : m ≤ 1000 := by omega
          have HBR := Aside0.mk (Below.refl w10.heap.size w10)
          go_wp2_with fail
          go_loopw [19, 20] (fun v19 v20 wr => ∃ i : Nat, i ≤ m ∧ v19 = .int .i64 (whC fs i : Int) ∧ v20 = .int .i64 (i : Int) ∧ Aside0 (Below w10.heap.size w10 wr)) (fun _ v20 _ => m - (intOf v20).toNat)
          case atStart => exact ⟨0, by omega, HW0.out, rfl, HBR⟩
          case round =>
            clear HBR
            obtain ⟨i, hi, rfl, rfl, HBI⟩ := hrel
            have i0 : (0 : Int) ≤ (i : Int) := by omega
            by_cases him : i < m
            · have him' : (i : Int) < (m : Int) := by omega
              obtain ⟨ad, rfl, cp⟩ := Kd.at_string HP11.out (i : Int) i0 him'
              rw [Int.toNat_natCast] at cp
              have er : rdOf ByteArray.empty ((fixL fs).map strV) (i : Int) = strV ((fixL fs).getD i []) := by
                have hl : i < (fixL fs).length := by rw [HML.out]; exact him
                simp [rdOf, hl]
              rw [er] at cp
              obtain ⟨x, hx⟩ : ∃ x, (fixL fs).getD i [] = x := ⟨_, rfl⟩
              have hfx : isFix fs x := by rw [← hx]; exact fixL_len (by rw [HML.out]; exact him)
              have hxl : x.length = n := by rw [hfx.len, HFL.out]
              have HWI := Aside0.mk (show whC fs (i + 1) = whC fs i + if totB x then 1 else 0 by rw [← hx]; exact whC_succ (by rw [HML.out]; exact him))
              have HFX := Aside0.mk (show whC fs i = 0 → totB x = true → fi = strV x from fun h1 h2 => by rw [← hx]; exact HFI.out i him h1 (by rw [hx]; exact h2))
              have HVK := Aside0.mk (fun (w8 : World) (h : Below w10.heap.size w10 w8) => (HVF.out x hxl w8 (Kd.C_below HR10.out h)))
              have HXK := Aside0.mk (fun (w8 : World) => HEX.out x hfx w8)
              have HWK := Aside0.mk (fun (w8 : World) => (show Calls Tryz.prog _ _ w8 _ from whole_strV hxl ▸ HWH.out (strV x) w8))
              have hwl := whC_le fs i
              rw [hx] at cp
              rw [show nextV fs x = x from hfx] at HVK
              have HCE := Aside0.mk (fun (w8 : World) (h : Below w10.heap.size w10 w8) => pw_cell_below h cp)
              have cp0 := HCE.out _ HBI.out
              clear cp
              have hsel : ((strV x).toList == (strV x).toList) = true := by simp
              have hsel2 : ((strV x).toList != (strV x).toList) = false := by simp
              clear hx hfx hxl er
              generalize totB x = tx at *
              generalize strV x = sx at *
              generalize hq : whC fs i = q at *
              clear hq
              have q0 : (0 : Int) ≤ (q : Int) := by omega
              have q1 : q ≤ 1000 := by omega
              go_wp2_with fail
              refine (HVK.out _ HBI.out).mono ?_
              rintro e w30 ⟨rfl, hb30⟩
              have HBJ := Aside0.mk (below_then HBI.out HBI.out.size hb30)
              have cp30 := HCE.out _ HBJ.out
              clear hb30
              go_wp2_with fail
              refine (HXK.out _).mono ?_
              rintro e w31 ⟨rfl, hb31⟩
              have HBJ2 := Aside0.mk (below_then HBJ.out HBJ.out.size hb31)
              have cp31 := HCE.out _ HBJ2.out
              clear hb31
              go_wp2_with fail
              refine (HWK.out _).mono ?_
              rintro e w32 ⟨rfl, hb32⟩
              have HBJ3 := Aside0.mk (below_then HBJ2.out HBJ2.out.size hb32)
              have cp32 := HCE.out _ HBJ3.out
              clear hb32
              cases tx
              · have HWJ := Aside0.mk (show whC fs (i + 1) = q from HWI.out)
                go_wp2_with fail
                go_roundw
                case rel => exact ⟨i + 1, by omega, by rw [HWJ.out], by go_num, HBJ3⟩
                case measure => simp [intOf]; omega
              · have HWJ := Aside0.mk (show whC fs (i + 1) = q + 1 from HWI.out)
                have qw : wrap64 ((q : Int) + 1) = (q : Int) + 1 := by unfold wrap64; omega
                by_cases hq0 : q = 0
                · have qe : ((q : Int) + 1 == 1) = true := beq_iff_eq.2 (by omega)
                  have hfe := HFX.out hq0 rfl
                  have hse : (sx.toList == fi.toList) = true := by rw [hfe]; simp
                  clear hfe hq0
                  go_wp2_with fail
                  go_roundw
                  case rel => exact ⟨i + 1, by omega, by rw [HWJ.out]; rfl, by go_num, HBJ3⟩
                  case measure => simp [intOf]; omega
                · have qe : ((q : Int) + 1 == 1) = false := beq_eq_false_iff_ne.2 (by omega)
                  clear hq0
                  go_wp2_with fail
                  go_roundw
                  case rel => exact ⟨i + 1, by omega, by rw [HWJ.out]; rfl, by go_num, HBJ3⟩
                  case measure => simp [intOf]; omega
            · obtain rfl : m = i := by omega
              clear him
              rw [HWA.out]
              have hnn : ((N : Int) == (N : Int)) = true := by simp
              obtain ⟨b, hb⟩ : ∃ b, decide (0 < (N : Int)) = b := ⟨_, rfl⟩
              have hb2 : (fe == 0) = b := by rw [HFR.out]; exact hb
              have hb3 : decide (0 < N) = b := by rw [← hb]; simp
              have hbb : (b == b) = true := by cases b <;> rfl
              go_wp2_with fail
              refine (alive_any _).mono ?_
              rintro e w40 ⟨rfl, hb40⟩
              have HB40 := Aside0.mk (below_then HB10.out HB10.out.size (below_then HBI.out HBI.out.size hb40))
              clear hb40
              go_wp2_with fail
              go_ret
              exact ⟨rfl, HB40.out⟩
      · have z7 : decide (7 < (n : Int)) = true := decide_eq_true (by omega)
        have z7' : decide (7 < n) = true := decide_eq_true (by omega)
        go_wp2_with fail
        refine (alive_any _).mono ?_
        rintro e w20 ⟨rfl, hb20⟩
        have HB20 := Aside0.mk (below_then HB7.out HB7.out.size hb20)
        clear hb20
        go_wp2_with fail
        go_ret
        exact ⟨rfl, HB20.out⟩
set_option maxHeartbeats 12800000 in
set_option maxRecDepth 100000 in
theorem kripke_c (fo : List (List T3) × Int) (n N : Nat) (fe : Int) (fi s sl : ByteArray) (fs : List Fm) (A : Option Addr) (c : Nat) (w : World) (LS : List ByteArray) (n10 : n ≤ 10) (hss : s.size ≤ 100) (HFL : Aside0 (fs.length = n))
    (HF : Aside0 (Calls Tryz.prog 6 #[.slice A n c] w fun e w' => e = .returned (.bool true) ∧ Below w.heap.size w w'))
    (HR : Aside0 (Kd.C Kd.string w A n LS))
    (HL : Aside0 (∀ w1, Kd.C Kd.string w1 A n LS → Calls Tryz.prog 8 #[.slice A n c] w1 (OutS (sl, 0) w1)))
    (HS : Aside0 (∀ w1, Kd.C Kd.string w1 A n LS → Calls Tryz.prog 9 #[.slice A n c] w1 fun e w' => e = .returned (.int .i64 0) ∧ Below w1.heap.size w1 w'))
    (HN : Aside0 (∀ w1, Calls Tryz.prog 10 #[.int .i64 (n : Int)] w1 fun e w' => e = .returned (.string (strV (noneV n))) ∧ Below w1.heap.size w1 w'))
    (HVF : Aside0 (∀ u : List T3, u.length = n → ∀ w1, Kd.C Kd.string w1 A n LS → Calls Tryz.prog 11 #[.slice A n c, .string (strV u)] w1 (OutS (strV (nextV fs u), 0) w1)))
    (HIT : Aside0 (∀ i, (iterV fs i (noneV n)).length = n))
    (HLI : Aside0 (strV (iterV fs n (noneV n)) = sl))
    (HVL : Aside0 (∀ w1, Kd.C Kd.string w1 A n LS → Calls Tryz.prog 11 #[.slice A n c, .string sl] w1 (OutS (sl, 0) w1)))
    (HVX : Aside0 (∀ w1, Kd.C Kd.string w1 A n LS → Calls Tryz.prog 13 #[.slice A n c] w1 (OutT fo w1)))
    (HFE : Aside0 (fo = if 1000 < (fixL fs).length then ([], 8) else (fixL fs, 0)))
    (HVC : Aside0 (∀ w1, Kd.C Kd.string w1 A n LS → Calls Tryz.prog 14 #[.slice A n c] w1 (OutI ((N : Int), 0) w1)))
    (HVG : Aside0 (∀ w1, Kd.C Kd.string w1 A n LS → Calls Tryz.prog 15 #[.slice A n c] w1 (OutS (fi, fe) w1)))
    (HFI : Aside0 (∀ i, i < (fixL fs).length → whC fs i = 0 → totB ((fixL fs).getD i []) = true → fi = strV ((fixL fs).getD i [])))
    (HFR : Aside0 ((fe == 0) = decide (0 < (N : Int))))
    (HWA : Aside0 (whC fs (fixL fs).length = N))
    (HEX : Aside0 (∀ x, isFix fs x → ∀ w1, Calls Tryz.prog 12 #[.string (strV x), .string sl] w1 fun e w' => e = .returned (.bool true) ∧ Below w1.heap.size w1 w'))
    (HWH : Aside0 (∀ s w1, Calls Tryz.prog 16 #[.string s, .int .i64 (n : Int)] w1 fun e w' => e = .returned (.bool (valB [48, 49] n s)) ∧ Below w1.heap.size w1 w'))
    (hs2 : (s.toList == s.toList) = true) (HVS : Aside0 (∀ w1, Kd.C Kd.string w1 A n LS → Calls Tryz.prog 11 #[.slice A n c, .string s] w1 (OutS (s, 0) w1)))
    (HX : Aside0 (∀ w1, Calls Tryz.prog 12 #[.string s, .string sl] w1 fun e w' => e = .returned (.bool true) ∧ Below w1.heap.size w1 w')) :
    Calls Tryz.prog 3 #[.slice A n c, .string s] w fun e w' => e = .returned (.bool true) ∧ Below w.heap.size w w' := by
  have n0 : (0 : Int) ≤ (n : Int) := by omega
  have s0 : (0 : Int) ≤ (s.size : Int) := by omega
  have ts : decide (100 < (s.size : Int)) = false := decide_eq_false (by omega)
  have ts' : decide (100 < s.size) = false := decide_eq_false (by omega)
  have H0 := Aside0.mk (show Value.string (strV (noneV n)) = .string (strV (iterV fs 0 (noneV n))) from rfl)
  have HW0 := Aside0.mk (show Value.int .i64 0 = .int .i64 (whC fs 0 : Int) by rw [whC_zero]; rfl)
  have hself : (sl.toList == sl.toList) = true := by simp
  have hself2 : (sl.toList != sl.toList) = false := by simp
  go_enter Tryz.func3, Tryz.ntmps3
  go_wp2_with fail
  refine HF.out.mono ?_
  rintro e w1 ⟨rfl, hb1⟩
  have HB1 := Aside0.mk hb1
  have HR1 := Aside0.mk (Kd.C_below HR.out hb1)
  clear hb1
  go_wp2_with fail
  refine (HL.out _ HR1.out).mono ?_
  rintro e w2 ⟨rfl, hb2⟩
  have HB2 := Aside0.mk (below_then HB1.out HB1.out.size hb2)
  have HR2 := Aside0.mk (Kd.C_below HR1.out hb2)
  clear hb2 HB1 HR1
  go_wp2_with fail
  refine (HS.out _ HR2.out).mono ?_
  rintro e w3 ⟨rfl, hb3⟩
  have HB3 := Aside0.mk (below_then HB2.out HB2.out.size hb3)
  have HR3 := Aside0.mk (Kd.C_below HR2.out hb3)
  clear hb3 HB2 HR2
  go_wp2_with fail
  refine (HN.out _).mono ?_
  rintro e w4 ⟨rfl, hb4⟩
  have HB4 := Aside0.mk (below_then HB3.out HB3.out.size hb4)
  have HR4 := Aside0.mk (Kd.C_below HR3.out hb4)
  clear hb4 HB3 HR3
  go_wp2_with fail
  have HBR := Aside0.mk (Below.refl w4.heap.size w4)
  go_loopw [7, 8] (fun v7 v8 wr => ∃ i : Nat, i ≤ n ∧ v7 = .string (strV (iterV fs i (noneV n))) ∧ v8 = .int .i64 (i : Int) ∧ Aside0 (Below w4.heap.size w4 wr)) (fun _ v8 _ => n - (intOf v8).toNat)
  case atStart => exact ⟨0, by omega, H0.out, rfl, HBR⟩
  case round =>
    clear HBR
    obtain ⟨i, hi, rfl, rfl, HBI⟩ := hrel
    have i0 : (0 : Int) ≤ (i : Int) := by omega
    by_cases hin : i < n
    · have hin' : (i : Int) < (n : Int) := by omega
      have HVK := Aside0.mk (HVF.out (iterV fs i (noneV n)) (HIT.out i) wr (Kd.C_below HR4.out HBI.out))
      have hnx : strV (nextV fs (iterV fs i (noneV n))) = strV (iterV fs (i + 1) (noneV n)) := rfl
      rw [hnx] at HVK
      obtain ⟨sx, hsx⟩ : ∃ x, strV (iterV fs (i + 1) (noneV n)) = x := ⟨_, rfl⟩
      rw [hsx] at HVK
      have HSX := Aside0.mk hsx
      clear hnx hsx
      generalize strV (iterV fs i (noneV n)) = sk at *
      go_wp2_with fail
      refine HVK.out.mono ?_
      rintro e w5 ⟨rfl, hb5⟩
      have HB5 := Aside0.mk (below_then HBI.out HBI.out.size hb5)
      clear hb5
      go_wp2_with fail
      go_roundw
      case rel => exact ⟨i + 1, by omega, by rw [HSX.out], by go_num, HB5⟩
      case measure => simp [intOf]; omega
    · obtain rfl : n = i := by omega
      clear hin
      rw [HLI.out]
      have HR5 := Aside0.mk (Kd.C_below HR4.out HBI.out)
      have HB5 := Aside0.mk (below_then HB4.out HB4.out.size HBI.out)
      clear HBI HR4 HB4 HIT
      go_wp2_with fail
      refine (HVL.out _ HR5.out).mono ?_
      rintro e w6 ⟨rfl, hb6⟩
      have HB6 := Aside0.mk (below_then HB5.out HB5.out.size hb6)
      have HR6 := Aside0.mk (Kd.C_below HR5.out hb6)
      clear hb6 HB5 HR5
      go_wp2_with fail
      refine (HVS.out _ HR6.out).mono ?_
      rintro e w7 ⟨rfl, hb7⟩
      have HB7 := Aside0.mk (below_then HB6.out HB6.out.size hb7)
      have HR7 := Aside0.mk (Kd.C_below HR6.out hb7)
      clear hb7 HB6 HR6
      go_wp2_with fail
      refine (HX.out _).mono ?_
      rintro e w8 ⟨rfl, hb8⟩
      have HB8 := Aside0.mk (below_then HB7.out HB7.out.size hb8)
      have HR8 := Aside0.mk (Kd.C_below HR7.out hb8)
      clear hb8 HB7 HR7
      by_cases h7 : n ≤ 7
      · have z7 : decide (7 < (n : Int)) = false := decide_eq_false (by omega)
        have z7' : decide (7 < n) = false := decide_eq_false (by omega)
        by_cases hm : 1000 < (fixL fs).length
        · rw [HFE.out, if_pos hm] at HVX
          go_wp2_with fail
          refine (HVX.out _ HR8.out).mono ?_
          rintro e w9 ⟨v9, rfl, hv9, hb9⟩
          have HB9 := Aside0.mk (below_then HB8.out HB8.out.size hb9)
          have HR9 := Aside0.mk (Kd.C_below HR8.out hb9)
          obtain ⟨A9, c9, rfl⟩ := Kd.R_slice hv9
          clear hv9
          clear hb9 HB8 HR8
          go_wp2_with fail
          refine (HVC.out _ HR9.out).mono ?_
          rintro e w10 ⟨rfl, hb10⟩
          have HB10 := Aside0.mk (below_then HB9.out HB9.out.size hb10)
          have HR10 := Aside0.mk (Kd.C_below HR9.out hb10)
          clear hb10 HB9 HR9
          go_wp2_with fail
          refine (HVG.out _ HR10.out).mono ?_
          rintro e w11 ⟨rfl, hb11⟩
          have HB11 := Aside0.mk (below_then HB10.out HB10.out.size hb11)
          have HR11 := Aside0.mk (Kd.C_below HR10.out hb11)
          clear hb11 HB10 HR10
          go_wp2_with fail
          refine (alive_any _).mono ?_
          rintro e w20 ⟨rfl, hb20⟩
          have HB20 := Aside0.mk (below_then HB11.out HB11.out.size hb20)
          clear hb20
          go_wp2_with fail
          go_ret
          exact ⟨rfl, HB20.out⟩
        · rw [HFE.out, if_neg hm] at HVX
          obtain ⟨m, hml2⟩ : ∃ m, (fixL fs).length = m := ⟨_, rfl⟩
          have HML := Aside0.mk hml2
          rw [hml2] at hm HFI HWA
          clear hml2
          go_wp2_with fail
          refine (HVX.out _ HR8.out).mono ?_
          rintro e w9 ⟨v9, rfl, hv9, hb9⟩
          have HB9 := Aside0.mk (below_then HB8.out HB8.out.size hb9)
          have HR9 := Aside0.mk (Kd.C_below HR8.out hb9)
          obtain ⟨A9, c9, rfl, hl9, hC9⟩ := Kd.R_reads hv9
          rw [List.length_map] at hl9 hC9
          have HP9 := Aside0.mk hC9
          clear hv9 hl9 hC9
          clear hb9 HB8 HR8
          go_wp2_with fail
          refine (HVC.out _ HR9.out).mono ?_
          rintro e w10 ⟨rfl, hb10⟩
          have HB10 := Aside0.mk (below_then HB9.out HB9.out.size hb10)
          have HR10 := Aside0.mk (Kd.C_below HR9.out hb10)
          have HP10 := Aside0.mk (Kd.C_below HP9.out hb10)
          clear hb10 HB9 HR9
          go_wp2_with fail
          refine (HVG.out _ HR10.out).mono ?_
          rintro e w11 ⟨rfl, hb11⟩
          have HB11 := Aside0.mk (below_then HB10.out HB10.out.size hb11)
          have HR11 := Aside0.mk (Kd.C_below HR10.out hb11)
          have HP11 := Aside0.mk (Kd.C_below HP10.out hb11)
          clear hb11 HB10 HR10
          (try rw [List.length_map])
          rw [HML.out]
          rw [HML.out] at HP11
          clear HP9 HP10
          have m0 : m ≤ 1000 := by omega
          have HBR := Aside0.mk (Below.refl w11.heap.size w11)
          go_wp2_with fail
          go_loopw [19, 20] (fun v19 v20 wr => ∃ i : Nat, i ≤ m ∧ v19 = .int .i64 (whC fs i : Int) ∧ v20 = .int .i64 (i : Int) ∧ Aside0 (Below w11.heap.size w11 wr)) (fun _ v20 _ => m - (intOf v20).toNat)
          case atStart => exact ⟨0, by omega, HW0.out, rfl, HBR⟩
          case round =>
            clear HBR
            obtain ⟨i, hi, rfl, rfl, HBI⟩ := hrel
            have i0 : (0 : Int) ≤ (i : Int) := by omega
            by_cases him : i < m
            · have him' : (i : Int) < (m : Int) := by omega
              obtain ⟨ad, rfl, cp⟩ := Kd.at_string HP11.out (i : Int) i0 him'
              rw [Int.toNat_natCast] at cp
              have er : rdOf ByteArray.empty ((fixL fs).map strV) (i : Int) = strV ((fixL fs).getD i []) := by
                have hl : i < (fixL fs).length := by rw [HML.out]; exact him
                simp [rdOf, hl]
              rw [er] at cp
              obtain ⟨x, hx⟩ : ∃ x, (fixL fs).getD i [] = x := ⟨_, rfl⟩
              have hfx : isFix fs x := by rw [← hx]; exact fixL_len (by rw [HML.out]; exact him)
              have hxl : x.length = n := by rw [hfx.len, HFL.out]
              have HWI := Aside0.mk (show whC fs (i + 1) = whC fs i + if totB x then 1 else 0 by rw [← hx]; exact whC_succ (by rw [HML.out]; exact him))
              have HFX := Aside0.mk (show whC fs i = 0 → totB x = true → fi = strV x from fun h1 h2 => by rw [← hx]; exact HFI.out i him h1 (by rw [hx]; exact h2))
              have HVK := Aside0.mk (fun (w8 : World) (h : Below w11.heap.size w11 w8) => (HVF.out x hxl w8 (Kd.C_below HR11.out h)))
              have HXK := Aside0.mk (fun (w8 : World) => HEX.out x hfx w8)
              have HWK := Aside0.mk (fun (w8 : World) => (show Calls Tryz.prog _ _ w8 _ from whole_strV hxl ▸ HWH.out (strV x) w8))
              have hwl := whC_le fs i
              rw [hx] at cp
              rw [show nextV fs x = x from hfx] at HVK
              have HCE := Aside0.mk (fun (w8 : World) (h : Below w11.heap.size w11 w8) => pw_cell_below h cp)
              have cp0 := HCE.out _ HBI.out
              clear cp
              have hsel : ((strV x).toList == (strV x).toList) = true := by simp
              have hsel2 : ((strV x).toList != (strV x).toList) = false := by simp
              clear hx hfx hxl er
              generalize totB x = tx at *
              generalize strV x = sx at *
              generalize hq : whC fs i = q at *
              clear hq
              have q0 : (0 : Int) ≤ (q : Int) := by omega
              have q1 : q ≤ 1000 := by omega
              go_wp2_with fail
              refine (HVK.out _ HBI.out).mono ?_
              rintro e w30 ⟨rfl, hb30⟩
              have HBJ := Aside0.mk (below_then HBI.out HBI.out.size hb30)
              have cp30 := HCE.out _ HBJ.out
              clear hb30
              go_wp2_with fail
              refine (HXK.out _).mono ?_
              rintro e w31 ⟨rfl, hb31⟩
              have HBJ2 := Aside0.mk (below_then HBJ.out HBJ.out.size hb31)
              have cp31 := HCE.out _ HBJ2.out
              clear hb31
              go_wp2_with fail
              refine (HWK.out _).mono ?_
              rintro e w32 ⟨rfl, hb32⟩
              have HBJ3 := Aside0.mk (below_then HBJ2.out HBJ2.out.size hb32)
              have cp32 := HCE.out _ HBJ3.out
              clear hb32
              cases tx
              · have HWJ := Aside0.mk (show whC fs (i + 1) = q from HWI.out)
                go_wp2_with fail
                go_roundw
                case rel => exact ⟨i + 1, by omega, by rw [HWJ.out], by go_num, HBJ3⟩
                case measure => simp [intOf]; omega
              · have HWJ := Aside0.mk (show whC fs (i + 1) = q + 1 from HWI.out)
                have qw : wrap64 ((q : Int) + 1) = (q : Int) + 1 := by unfold wrap64; omega
                by_cases hq0 : q = 0
                · have qe : ((q : Int) + 1 == 1) = true := beq_iff_eq.2 (by omega)
                  have hfe := HFX.out hq0 rfl
                  have hse : (sx.toList == fi.toList) = true := by rw [hfe]; simp
                  clear hfe hq0
                  go_wp2_with fail
                  go_roundw
                  case rel => exact ⟨i + 1, by omega, by rw [HWJ.out]; rfl, by go_num, HBJ3⟩
                  case measure => simp [intOf]; omega
                · have qe : ((q : Int) + 1 == 1) = false := beq_eq_false_iff_ne.2 (by omega)
                  clear hq0
                  go_wp2_with fail
                  go_roundw
                  case rel => exact ⟨i + 1, by omega, by rw [HWJ.out]; rfl, by go_num, HBJ3⟩
                  case measure => simp [intOf]; omega
            · obtain rfl : m = i := by omega
              clear him
              rw [HWA.out]
              have hnn : ((N : Int) == (N : Int)) = true := by simp
              obtain ⟨b, hb⟩ : ∃ b, decide (0 < (N : Int)) = b := ⟨_, rfl⟩
              have hb2 : (fe == 0) = b := by rw [HFR.out]; exact hb
              have hb3 : decide (0 < N) = b := by rw [← hb]; simp
              have hbb : (b == b) = true := by cases b <;> rfl
              go_wp2_with fail
              refine (alive_any _).mono ?_
              rintro e w40 ⟨rfl, hb40⟩
              have HB40 := Aside0.mk (below_then HB11.out HB11.out.size (below_then HBI.out HBI.out.size hb40))
              clear hb40
              go_wp2_with fail
              go_ret
              exact ⟨rfl, HB40.out⟩
      · have z7 : decide (7 < (n : Int)) = true := decide_eq_true (by omega)
        have z7' : decide (7 < n) = true := decide_eq_true (by omega)
        go_wp2_with fail
        refine (alive_any _).mono ?_
        rintro e w20 ⟨rfl, hb20⟩
        have HB20 := Aside0.mk (below_then HB8.out HB8.out.size hb20)
        clear hb20
        go_wp2_with fail
        go_ret
        exact ⟨rfl, HB20.out⟩
set_option maxHeartbeats 6400000 in
set_option maxRecDepth 100000 in
theorem law_kripke (L : List (List UInt8)) (s : ByteArray) (A : Option Addr) (c : Nat) (w : World) (hr : Kd.C Kd.string w A L.length (L.map strL)) (hc : L.length ≤ c) (hss : s.size ≤ 9223372036854775807) :
    Calls Tryz.prog 3 #[.slice A L.length c, .string s] w fun e w' => e = .returned (.bool true) ∧ Below w.heap.size w w' := by
  have hml : (L.map strL).length = L.length := List.length_map _
  have hfew := few_any (L.map strL) A c w (by rw [hml]; exact hr) (by rw [hml]; exact hc)
  rw [hml] at hfew
  have HF := Aside0.mk hfew
  have HR := Aside0.mk hr
  clear hfew
  cases hf : fewB (L.map strL)
  · rw [hf] at HF
    clear hf hr
    go_enter Tryz.func3, Tryz.ntmps3
    go_wp2_with fail
    refine HF.out.mono ?_
    rintro e w1 ⟨rfl, hb1⟩
    have HB1 := Aside0.mk hb1
    have HR1 := Aside0.mk (Kd.C_below HR.out hb1)
    clear hb1
    go_wp2_with fail
    refine (alive_any _).mono ?_
    rintro e w2 ⟨rfl, hb2⟩
    have HB2 := Aside0.mk (below_then HB1.out HB1.out.size hb2)
    have HR2 := Aside0.mk (Kd.C_below HR1.out hb2)
    clear hb2 HB1 HR1
    go_wp2_with fail
    go_ret
    exact ⟨rfl, HB2.out⟩
  · rw [hf] at HF
    clear hf hr
    by_cases h100 : s.size ≤ 100
    · have ts : decide (100 < (s.size : Int)) = false := decide_eq_false (by omega)
      have ts' : decide (100 < s.size) = false := decide_eq_false (by omega)
      by_cases h0 : sysE L = 0
      · have S := sys_ok h0
        have e1 : leastO L = (strV (leastV (sysF L)), 0) := by unfold leastO; rw [if_pos h0]
        have e2 : ∀ u : List T3, u.length = L.length → valueO L (strV u) = (strV (nextV (sysF L) u), 0) := fun u hu => by
          unfold valueO
          rw [if_pos h0, if_pos (by rw [← hu]; exact valB3_strV u), vsOf_strV]
        have e3 : countO L = ((((conL L.length (sysF L)).length : Nat) : Int), (0 : Int)) := by unfold countO; rw [if_pos h0]; rfl
        have HL := Aside0.mk (fun (w1 : World) (hC : Kd.C Kd.string w1 A L.length (L.map strL)) => least_call L w1 A c hC)
        have HS := Aside0.mk (fun (w1 : World) (hC : Kd.C Kd.string w1 A L.length (L.map strL)) => rsystem_call L w1 A c hC)
        have HV2 := Aside0.mk (fun (u : List T3) (hu : u.length = L.length) (w1 : World) (hC : Kd.C Kd.string w1 A L.length (L.map strL)) => (show Calls Tryz.prog _ _ w1 (OutS (strV (nextV (sysF L) u), 0) w1) from e2 u hu ▸ value_call L (strV u) w1 A c hC (by rw [strV_size]; have := S.n10; omega)))
        have HVC := Aside0.mk (fun (w1 : World) (hC : Kd.C Kd.string w1 A L.length (L.map strL)) => count_call L w1 A c hC)
        have HVG := Aside0.mk (fun (w1 : World) (hC : Kd.C Kd.string w1 A L.length (L.map strL)) => (show Calls Tryz.prog _ _ w1 (OutS ((firstO L).1, (firstO L).2) w1) from first_call L w1 A c hC))
        rw [h0] at HS
        rw [e1] at HL
        rw [e3] at HVC
        have hll : (leastV (sysF L)).length = L.length := by rw [leastV_len, S.len]
        have hVL := HV2.out _ hll
        rw [leastV_fix] at hVL
        have hLI : strV (iterV (sysF L) L.length (noneV L.length)) = strV (leastV (sysF L)) := by unfold leastV; rw [S.len]
        have HEX := Aside0.mk (fun (x : List T3) (hx : isFix (sysF L) x) (w1 : World) => extends_any S.n10 (by rw [hx.len, S.len]) hll (leastV_le hx) w1)
        have HVS0 := Aside0.mk (fun (w1 : World) (hC : Kd.C Kd.string w1 A L.length (L.map strL)) => value_call L s w1 A c hC hss)
        by_cases hv : valB [48, 49, 63] L.length s = true
        · obtain ⟨v, hvl, rfl⟩ := valB3 hv
          rw [e2 v hvl] at HVS0
          by_cases hx : isFix (sysF L) v
          · rw [show nextV (sysF L) v = v from hx] at HVS0
            exact kripke_c (fixedO L) L.length _ (firstO L).2 (firstO L).1 (strV v) _ (sysF L) A c w (L.map strL) S.n10 h100 ⟨S.len⟩ HF HR HL HS ⟨fun w1 => none_any _ S.n10 w1⟩ HV2 ⟨fun i => by rw [iterV_len (by simp [noneV, S.len]), S.len]⟩ ⟨hLI⟩ ⟨hVL⟩ ⟨fun w1 hC => fixed_call L w1 A c hC⟩ ⟨by unfold fixedO; rw [if_pos h0]⟩ HVC HVG ⟨fun i hi hw ht => first_wh h0 hi hw ht⟩ ⟨first_err h0⟩ ⟨whC_all S⟩ HEX ⟨fun s w1 => whole_any s _ S.n10 w1⟩ (by simp) HVS0 ⟨HEX.out v hx⟩
          · exact kripke_b (fixedO L) L.length _ (firstO L).2 (firstO L).1 (strV v) _ (sysF L) A c w (L.map strL) S.n10 h100 ⟨S.len⟩ HF HR HL HS ⟨fun w1 => none_any _ S.n10 w1⟩ HV2 ⟨fun i => by rw [iterV_len (by simp [noneV, S.len]), S.len]⟩ ⟨hLI⟩ ⟨hVL⟩ ⟨fun w1 hC => fixed_call L w1 A c hC⟩ ⟨by unfold fixedO; rw [if_pos h0]⟩ HVC HVG ⟨fun i hi hw ht => first_wh h0 hi hw ht⟩ ⟨first_err h0⟩ ⟨whC_all S⟩ HEX ⟨fun s w1 => whole_any s _ S.n10 w1⟩ _ (by rw [eqS]; exact decide_eq_false hx) HVS0
        · rw [show valueO L s = (str0, 2) by unfold valueO; rw [if_pos h0, if_neg hv]] at HVS0
          exact kripke_a (fixedO L) L.length _ (firstO L).2 (firstO L).1 s _ (sysF L) A c w (L.map strL) S.n10 h100 ⟨S.len⟩ HF HR HL HS ⟨fun w1 => none_any _ S.n10 w1⟩ HV2 ⟨fun i => by rw [iterV_len (by simp [noneV, S.len]), S.len]⟩ ⟨hLI⟩ ⟨hVL⟩ ⟨fun w1 hC => fixed_call L w1 A c hC⟩ ⟨by unfold fixedO; rw [if_pos h0]⟩ HVC HVG ⟨fun i hi hw ht => first_wh h0 hi hw ht⟩ ⟨first_err h0⟩ ⟨whC_all S⟩ HEX ⟨fun s w1 => whole_any s _ S.n10 w1⟩ HVS0
      · have HS := Aside0.mk (fun (w1 : World) (hC : Kd.C Kd.string w1 A L.length (L.map strL)) => rsystem_call L w1 A c hC)
        have HL := Aside0.mk (fun (w1 : World) (hC : Kd.C Kd.string w1 A L.length (L.map strL)) => least_call L w1 A c hC)
        rw [show leastO L = (str0, sysE L) by unfold leastO; rw [if_neg h0]] at HL
        have hne : (sysE L != 0) = true := bne_iff_ne.2 h0
        have hee : (sysE L == sysE L) = true := by simp
        have hse : str0.toList.isEmpty = true := by simp [str0]
        clear h0
        generalize sysE L = x at *
        go_enter Tryz.func3, Tryz.ntmps3
        go_wp2_with fail
        refine HF.out.mono ?_
        rintro e w1 ⟨rfl, hb1⟩
        have HB1 := Aside0.mk hb1
        have HR1 := Aside0.mk (Kd.C_below HR.out hb1)
        clear hb1
        go_wp2_with fail
        refine (HL.out _ HR1.out).mono ?_
        rintro e w2 ⟨rfl, hb2⟩
        have HB2 := Aside0.mk (below_then HB1.out HB1.out.size hb2)
        have HR2 := Aside0.mk (Kd.C_below HR1.out hb2)
        clear hb2 HB1 HR1
        go_wp2_with fail
        refine (HS.out _ HR2.out).mono ?_
        rintro e w3 ⟨rfl, hb3⟩
        have HB3 := Aside0.mk (below_then HB2.out HB2.out.size hb3)
        have HR3 := Aside0.mk (Kd.C_below HR2.out hb3)
        clear hb3 HB2 HR2
        go_wp2_with fail
        refine (HS.out _ HR3.out).mono ?_
        rintro e w4 ⟨rfl, hb4⟩
        have HB4 := Aside0.mk (below_then HB3.out HB3.out.size hb4)
        have HR4 := Aside0.mk (Kd.C_below HR3.out hb4)
        clear hb4 HB3 HR3
        go_wp2_with fail
        refine (alive_any _).mono ?_
        rintro e w5 ⟨rfl, hb5⟩
        have HB5 := Aside0.mk (below_then HB4.out HB4.out.size hb5)
        have HR5 := Aside0.mk (Kd.C_below HR4.out hb5)
        clear hb5 HB4 HR4
        go_wp2_with fail
        go_ret
        exact ⟨rfl, HB5.out⟩
    · have ts : decide (100 < (s.size : Int)) = true := decide_eq_true (by omega)
      have ts' : decide (100 < s.size) = true := decide_eq_true (by omega)
      go_enter Tryz.func3, Tryz.ntmps3
      go_wp2_with fail
      refine HF.out.mono ?_
      rintro e w1 ⟨rfl, hb1⟩
      have HB1 := Aside0.mk hb1
      have HR1 := Aside0.mk (Kd.C_below HR.out hb1)
      clear hb1
      go_wp2_with fail
      refine (alive_any _).mono ?_
      rintro e w2 ⟨rfl, hb2⟩
      have HB2 := Aside0.mk (below_then HB1.out HB1.out.size hb2)
      have HR2 := Aside0.mk (Kd.C_below HR1.out hb2)
      clear hb2 HB1 HR1
      go_wp2_with fail
      go_ret
      exact ⟨rfl, HB2.out⟩
end Go.Proofs.YtijaefmaceolbaaGreatDoor.Im
namespace Go.Proofs.YtijaefmaceolbaaGreatDoor.Im
open Go.RowKit Go.Proofs.YtijaefmaceolbaaGreatDoorW.PrintWords Go.Proofs.YtijaefmaceolbaaGreatDoorW.PrintLast Go.Proofs.YtijaefmaceolbaaGreatDoorW.PrintMore Go.Proofs.YtijaefmaceolbaaGreatDoor.Tr
theorem law15_any (A : Option Addr) (c : Nat) (l : List ByteArray) (s : ByteArray) (w : World) (hr : Kd.C Kd.string w A l.length l) (hc : l.length ≤ c) (hss : s.size ≤ maxLen) :
    Calls Tryz.prog 3 #[.slice A l.length c, .string s] w fun e w' => e = .returned (.bool true) ∧ Below w.heap.size w w' := by
  obtain ⟨L, rfl⟩ := strs_of l
  rw [List.length_map] at hr hc ⊢
  exact law_kripke L s A c w hr hc (Nat.le_trans hss (by unfold maxLen; omega))
end Go.Proofs.YtijaefmaceolbaaGreatDoor.Im

