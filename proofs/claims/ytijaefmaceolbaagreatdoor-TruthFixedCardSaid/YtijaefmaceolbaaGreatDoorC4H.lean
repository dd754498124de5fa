/- Further parts of the same walk: contracts of the functions that the law reaches, each under the conditions that it states. -/
import Derived.Test.YtijaefmaceolbaaGreatDoorC4G
import Derived.Laws.ResultCell
namespace Go.Proofs.YtijaefmaceolbaaGreatDoor.Im
open Go.RowKit Go.Proofs.YtijaefmaceolbaaGreatDoorW.PrintWords Go.Proofs.YtijaefmaceolbaaGreatDoorW.PrintLast Go.Proofs.YtijaefmaceolbaaGreatDoorW.PrintMore Go.Proofs.YtijaefmaceolbaaGreatDoor.Tr
set_option linter.unusedVariables false
set_option linter.unusedSimpArgs false
theorem form_any (g : Nat) (s : List UInt8) (many : Nat) (hm : many ≤ 10) (hs : s.length ≤ 40) : ∀ (k : Nat) (bad : Bool) (p : Nat) (w : World), p ≤ s.length → RB g s many p bad w → (bad = false → (s.drop p).length < k) →
      Calls Tryz.prog 81 #[.pointer (some ⟨g, 0, none⟩)] w (FormP g s many w (if bad then none else rdF many k (s.drop p)))
  | k, true, p, w, hp, h, _ => by
    rw [if_pos rfl]
    exact form_bad g s many p hp w h
  | 0, false, p, w, hp, h, hk => absurd (hk rfl) (by omega)
  | k + 1, false, p, w, hp, h, hk => by
    rw [if_neg (by simp)]
    exact form_succ g s many hm hs k p hp w h (form_any g s many hm hs k) (hk rfl)
theorem parse_of {n : Nat} {s : List UInt8} {p : Nat} {bad : Bool} {x : SNd} (h : RdOk s p bad x (rdF n (s.length + 1) s)) (hp : p ≤ s.length) (h40 : s.length ≤ 40) :
    ((bad = true ∨ p ≠ s.length) → parseE n s = 5) ∧ (bad = false → p = s.length → parseE n s = 0 ∧ ∃ f, parseO n s = some f ∧ x = ndF f) := by
  unfold parseE parseO
  rw [if_neg (by omega)]
  cases hq : rdF n (s.length + 1) s with
  | none =>
    rw [hq] at h
    have hb : bad = true := h
    subst hb
    exact ⟨fun _ => rfl, fun h => by cases h⟩
  | some q =>
    obtain ⟨f, t⟩ := q
    rw [hq] at h
    obtain ⟨h1, h2, h3⟩ := h
    subst h1
    refine ⟨fun hh => ?_, fun _ hpl => ?_⟩
    · have hne : p ≠ s.length := by rcases hh with hh | hh; cases hh; exact hh
      have : t ≠ [] := by
        rintro rfl
        have := List.drop_eq_nil_iff.1 h3
        omega
      cases t with
      | nil => exact absurd rfl this
      | cons c t => rfl
    · have : t = [] := by rw [← h3, hpl, List.drop_length]
      subst this
      exact ⟨rfl, f, rfl, h2⟩
def ParsedP (n : Nat) (s : List UInt8) (w : World) (e : Ending) (w' : World) : Prop :=
  ∃ (x : SNd) (A : Option Addr) (m c : Nat), e = .returned (.tuple #[.agg #[.int .u8 x.f0, .slice A m c], .int .i64 (parseE n s)]) ∧ kNd.M w' w.heap.size (fun _ => True) x [.int .u8 x.f0, .slice A m c] ∧ (parseE n s = 0 → ∃ f, parseO n s = some f ∧ x = ndF f) ∧ Below w.heap.size w w'
theorem ret2_node {x : Int} {A : Option Addr} {m c : Nat} {er : Int} {W : World} {gr : Nat} {Q : Ending → World → Prop} (hg : Blk W gr 99 #[.int .u8 x, .slice A m c]) (tmps : Array Value) (ht : tmps.getD 4 undef = .pointer (some ⟨gr, 0, none⟩)) (h5 : tmps.getD 5 undef = .int .i64 er)
    (h : Q (.returned (.tuple #[.agg #[.int .u8 x, .slice A m c], .int .i64 er])) W) : bodyPost Tryz.prog Tryz.f62 Q .ret { tmps := tmps, defers := [] } W := by
  refine bodyPost_ret (v := .tuple #[.agg #[.int .u8 x, .slice A m c], .int .i64 er]) ?_ rfl h
  have hl : (loadVar 99 ⟨gr, 0, none⟩).run Tryz.prog W = .ok (.agg #[.int .u8 x, .slice A m c]) W := run_loadVar_row W gr _ _ _ (0, 0) _ hg Tryz.underlying99 rfl nodeSz
  show (results Tryz.f62 tmps).run Tryz.prog W = _
  rw [results_cell_tmp (p := 4) (u := 5) (ty := 99) rfl, ht, h5]
  simp [asAddr, Result.andThen, hl]
set_option maxHeartbeats 1600000 in
set_option maxRecDepth 100000 in
theorem parsed_any (n : Nat) (hn : n ≤ 10) (s : List UInt8) (w : World) :
    Calls Tryz.prog 62 #[.string (strL s), .int .i64 (n : Nat)] w (ParsedP n s w) := by
  have hsz : (strL s).size = s.length := strL_size s
  have hb0 : Below w.heap.size w (w.alloc (.cells #[.int .u8 0, .slice none 0 0] 99)) := below_alloc (Below.refl _ _) _
  have HB0 := Aside0.mk hb0
  have HG := Aside0.mk (Blk.new w 99 #[.int .u8 0, .slice none 0 0])
  by_cases h40 : s.length ≤ 40
  · have d40 : decide ((s.length : Int) > 40) = false := decide_eq_false (by omega)
    have HR := Aside0.mk (show RB w.heap.size.succ s n 0 false ((w.alloc (.cells #[.int .u8 0, .slice none 0 0] 99)).alloc (.cells #[.string (strL s), .int .i64 0, .int .i64 (n : Nat), .bool false] 125)) from Blk.new' (by simp))
    have HC := Aside0.mk (form_any w.heap.size.succ s n hn h40 (s.length + 1) false 0 _ (Nat.zero_le _) HR.out (fun _ => by simp))
    rw [if_neg (by simp), List.drop_zero] at HC
    go_enter Tryz.func62, Tryz.ntmps62
    go_wp2_with fail
    refine HC.out.mono ?_
    intro e w2 hf
    obtain ⟨x1, A1, n1, m1, p1, bad1, rfl, hM1, hr1, hp1, hk1, ho1⟩ := hf.open
    have hG2 : Blk w2 w.heap.size 99 #[.int .u8 0, .slice none 0 0] := hk1.blk (HG.out.alloc _) (by show w.heap.size ≠ w.heap.size.succ; omega)
    have hb2 : Below w.heap.size w w2 := (below_alloc hb0 _).trans (hk1.below (by simp; omega) (fun i hi => by show i ≠ w.heap.size.succ; omega))
    have hba : Below w2.heap.size w2 (w2.alloc (.cells #[.int .u8 x1.f0, .slice A1 n1 m1] 99)) := below_alloc (Below.refl _ _) _
    have HB3 := Aside0.mk (below_alloc hb2 (.cells #[.int .u8 x1.f0, .slice A1 n1 m1] 99))
    have HG3 := Aside0.mk (hG2.alloc (.cells #[.int .u8 x1.f0, .slice A1 n1 m1] 99))
    have HR3 := Aside0.mk (show RB w.heap.size.succ s n p1 bad1 (w2.alloc (.cells #[.int .u8 x1.f0, .slice A1 n1 m1] 99)) from Blk.later hr1 hba)
    have HX3 := Aside0.mk (Blk.new w2 99 #[.int .u8 x1.f0, .slice A1 n1 m1])
    have HM3 := Aside0.mk (Kd.M_below hM1 hba)
    have HPF := Aside0.mk (parse_of ho1 hp1 h40)
    have hsz2 : w.heap.size < w2.heap.size := hG2.lt
    clear hf hM1 hr1 hk1 ho1 hba hb2 hG2 hb0 HC HR HB0 HG
    have c1 := HR3.out.c1
    have c3 := HR3.out.c3
    have g0 : (w2.alloc (.cells #[.int .u8 x1.f0, .slice A1 n1 m1] 99)).cell? ⟨w.heap.size, 0, none⟩ = some (.int .u8 0) := HG3.out.cell 0
    have g1 : (w2.alloc (.cells #[.int .u8 x1.f0, .slice A1 n1 m1] 99)).cell? ⟨w.heap.size, 1, none⟩ = some (.slice none 0 0) := HG3.out.cell 1
    have e0 := HG3.out.frozen 0
    have e1 := HG3.out.frozen 1
    have x0 : (w2.alloc (.cells #[.int .u8 x1.f0, .slice A1 n1 m1] 99)).cell? ⟨w2.heap.size, 0, none⟩ = some (.int .u8 x1.f0) := HX3.out.cell 0
    have x1' : (w2.alloc (.cells #[.int .u8 x1.f0, .slice A1 n1 m1] 99)).cell? ⟨w2.heap.size, 1, none⟩ = some (.slice A1 n1 m1) := HX3.out.cell 1
    by_cases hbp : bad1 = true ∨ p1 ≠ s.length
    · have HE := Aside0.mk (HPF.out.1 hbp)
      clear HPF
      have hpb : (bad1 = true) ∨ (bad1 = false ∧ ((p1 : Int) != (s.length : Int)) = true) := by
        cases bad1
        · refine .inr ⟨rfl, bne_iff_ne.2 ?_⟩
          rcases hbp with h | h
          · cases h
          · omega
        · exact .inl rfl
      clear hbp
      rcases hpb with rfl | ⟨rfl, hne⟩
      all_goals
        go_upto_region 5 with fail
        generalize w2.alloc (.cells #[.int .u8 x1.f0, .slice A1 n1 m1] 99) = W3 at *
        go_wp2_with fail
        refine ret2_node ((HG3.out.set_ 0 _).set_ 1 _) _ rfl rfl ⟨zNd, none, 0, 0, by rw [HE.out]; rfl, nd_zero _ _, fun h => (by rw [HE.out] at h; cases h), ?_⟩
        exact below_set (below_set HB3.out (Nat.le_refl _)) (Nat.le_refl _)
    · have hb1 : bad1 = false := by cases bad1; rfl; exact absurd (.inl rfl) hbp
      have hpe : p1 = s.length := Classical.byContradiction fun h => hbp (.inr h)
      subst hb1
      have HE := Aside0.mk (HPF.out.2 rfl hpe)
      have hne : ((p1 : Int) != (s.length : Int)) = false := bne_eq_false_iff_eq.2 (by omega)
      clear HPF hbp hpe
      go_upto_region 5 with fail
      generalize w2.alloc (.cells #[.int .u8 x1.f0, .slice A1 n1 m1] 99) = W3 at *
      go_wp2_with fail
      have hM4 := nd_keep HM3.out (((Keep.refl (fun i => i ≠ w.heap.size) W3).set_ w.heap.size 0 (.int .u8 x1.f0) (fun _ h => h rfl)).set_ w.heap.size 1 (.slice A1 n1 m1) (fun _ h => h rfl)) (fun k hk => by simp at hk; omega)
      refine ret2_node ((HG3.out.set_ 0 _).set_ 1 _) _ rfl rfl ⟨x1, A1, n1, m1, by rw [HE.out.1], kNd.M_lower (by simp; omega) hM4, fun _ => HE.out.2, ?_⟩
      exact below_set (below_set HB3.out (Nat.le_refl _)) (Nat.le_refl _)
  · have d40 : decide ((s.length : Int) > 40) = true := decide_eq_true (by omega)
    have g0 : (w.alloc (.cells #[.int .u8 0, .slice none 0 0] 99)).cell? ⟨w.heap.size, 0, none⟩ = some (.int .u8 0) := HG.out.cell 0
    have hE : parseE n s = 3 := by unfold parseE; rw [if_pos (by omega)]
    have HE := Aside0.mk hE
    clear hE hb0
    go_enter Tryz.func62, Tryz.ntmps62
    go_wp2_with fail
    exact ret2_node HG.out _ rfl rfl ⟨zNd, none, 0, 0, by rw [HE.out]; rfl, nd_zero _ _, fun h => (by rw [HE.out] at h; cases h), HB0.out⟩
end Go.Proofs.YtijaefmaceolbaaGreatDoor.Im

namespace Go.Proofs.YtijaefmaceolbaaGreatDoor.Im
open Go.RowKit Go.Proofs.YtijaefmaceolbaaGreatDoorW.PrintWords Go.Proofs.YtijaefmaceolbaaGreatDoorW.PrintLast Go.Proofs.YtijaefmaceolbaaGreatDoorW.PrintMore Go.Proofs.YtijaefmaceolbaaGreatDoor.Tr
attribute [local go_sem] max2_int min2_int max_two min_two max_three min_three max_four min_four
set_option linter.unusedVariables false
set_option linter.unusedSimpArgs false
def ReadP (l : List (List UInt8)) (w : World) (e : Ending) (w' : World) : Prop :=
  ∃ v, e = .returned (.tuple #[v, .int .i64 (sysE l)]) ∧ Below w.heap.size w w' ∧ (sysE l = 0 → Kd.R kNd 99 w' w.heap.size (fun _ => True) v ((sysF l).map ndF)) ∧ (sysE l ≠ 0 → v = .slice none 0 0)
theorem rread_long (l : List (List UInt8)) (w : World) (A : Option Addr) (c : Nat) (h : 10 < l.length) : Calls Tryz.prog 30 #[.slice A l.length c] w (ReadP l w) := by
  have HE := Aside0.mk (show sysE l = 3 by unfold sysE; rw [if_pos h])
  have hb : decide (10 < (l.length : Int)) = true := decide_eq_true (by omega)
  have hb' : decide (10 < l.length) = true := decide_eq_true (by omega)
  go_enter Tryz.func30, Tryz.ntmps30
  go_wp2_with fail
  go_ret2
  exact ⟨.slice none 0 0, (by rw [HE.out]; rfl), Below.refl _ _, fun h => (by rw [HE.out] at h; cases h), fun _ => rfl⟩
theorem rread_nil (w : World) (A : Option Addr) (c : Nat) : Calls Tryz.prog 30 #[.slice A (([] : List (List UInt8)).length) c] w (ReadP [] w) := by
  have HE := Aside0.mk (show sysE [] = 2 from rfl)
  go_enter Tryz.func30, Tryz.ntmps30
  go_wp2_with fail
  go_ret2
  exact ⟨.slice none 0 0, (by rw [HE.out]; rfl), Below.refl _ _, fun h => (by rw [HE.out] at h; cases h), fun _ => rfl⟩
def ndO (n : Nat) (s : List UInt8) : SNd := ndF (fmO n s)
theorem ndO_snoc {n : Nat} {l : List (List UInt8)} {k : Nat} (h : k < l.length) : (l.take (k + 1)).map (ndO n) = (l.take k).map (ndO n) ++ [ndO n (l.getD k [])] := by
  rw [List.take_succ_eq_append_getElem h, List.map_append]
  simp [h]
def ReadGo (n : Nat) (l : List (List UInt8)) (w : World) (e : Ending) (w' : World) : Prop :=
  ∃ v, e = .returned (.tuple #[v, .int .i64 (firstE n l)]) ∧ Below w.heap.size w w' ∧ (firstE n l = 0 → Kd.R kNd 99 w' w.heap.size (fun _ => True) v (l.map (ndO n))) ∧ (firstE n l ≠ 0 → v = .slice none 0 0)
set_option maxHeartbeats 1600000 in
set_option maxRecDepth 100000 in
theorem rread_go (l : List (List UInt8)) (w : World) (A : Option Addr) (c n : Nat) (hn : l.length = n) (h1 : 0 < n) (h2 : n ≤ 10) (hr : Kd.C Kd.string w A n (l.map strL)) : Calls Tryz.prog 30 #[.slice A n c] w (ReadGo n l w) := by
  have hb : decide (10 < (n : Int)) = false := decide_eq_false (by omega)
  have hb' : decide (10 < n) = false := decide_eq_false (by omega)
  have hz : ((n : Int) == 0) = false := beq_eq_false_iff_ne.2 (by omega)
  have n0 : (0 : Int) ≤ (n : Int) := by omega
  have HR := Aside0.mk hr
  have HN := Aside0.mk hn
  have HB0 := Aside0.mk (Below.refl w.heap.size w)
  clear hr hn
  go_enter Tryz.func30, Tryz.ntmps30
  go_wp2_with fail
  go_loopw [4, 5] (fun v v5 wr => ∃ k : Nat, k ≤ n ∧ v5 = .int .i64 (k : Int) ∧ Aside0 (firstE n l = firstE n (l.drop k)) ∧ Aside0 (Kd.R kNd 99 wr w.heap.size (fun _ => True) v ((l.take k).map (ndO n))) ∧ Aside0 (Below w.heap.size w wr)) (fun _ v5 _ => n - (intOf v5).toNat)
  case atStart => exact ⟨0, by omega, rfl, ⟨rfl⟩, ⟨Kd.R_nil _ _ _ _ _⟩, HB0⟩
  case round =>
    clear HB0
    obtain ⟨k, hk, rfl, HE, HO, HB⟩ := hrel
    have k0 : (0 : Int) ≤ (k : Int) := by omega
    by_cases hkn : k < n
    · have hkn' : (k : Int) < (n : Int) := by omega
      have hkl : k < l.length := by have := HN.out; omega
      obtain ⟨ad, rfl, hcell⟩ := Kd.at_string (Kd.C_below HR.out HB.out) (k : Int) k0 hkn'
      rw [rd_strL l k hkl, Int.toNat_natCast] at hcell
      have HP := Aside0.mk (parsed_any n h2 (l.getD k []) wr)
      have HE2 := Aside0.mk (HE.out.trans (firstE_drop hkl))
      have HS := Aside0.mk (ndO_snoc (n := n) hkl)
      have hlen : ((l.take k).map (ndO n)).length ≤ 10 := by rw [List.length_map, List.length_take]; omega
      have HL := Aside0.mk hlen
      clear hkl hlen
      have hfm : ∀ x, (parseE n (l.getD k []) = 0 → ∃ f, parseO n (l.getD k []) = some f ∧ x = ndF f) → parseE n (l.getD k []) = 0 → x = ndO n (l.getD k []) := fun x h h0 => by
        obtain ⟨f, hf, hx⟩ := h h0
        rw [hx, ndO, fmO, hf]
        rfl
      have HFM := Aside0.mk hfm
      clear hfm
      generalize l.getD k [] = s at *
      have HBW := Aside0.mk HB.out.size
      obtain ⟨I, hO⟩ := Kd.R_own HO.out
      have HOW := Aside0.mk (fun b hb => own_lt hO b hb)
      clear hO
      by_cases hp : parseE n s = 0
      · have he2 := HE2.out
        rw [if_pos hp] at he2
        have HE3 := Aside0.mk he2
        have HZ := Aside0.mk hp
        clear he2 HE2 HE hp
        go_wp2_with fail
        refine HP.out.mono ?_
        rintro e w2 ⟨x1, A1, m1, d1, rfl, hM, hx, hb2⟩
        rw [HZ.out]
        have HX := Aside0.mk (HFM.out x1 hx HZ.out)
        have hM2 := kNd.M_mono (ok' := fun q => wr.heap.size ≤ q) (fun q hq => hq.2.1) (kNd.M_bound hM)
        have HM := Aside0.mk (Kd.M_below hM2 (below_alloc (Below.refl _ _) (.cells #[.int .u8 x1.f0, .slice A1 m1 d1] 99)))
        have HB2 := Aside0.mk (below_alloc (below_then HB.out HB.out.size hb2) (.cells #[.int .u8 x1.f0, .slice A1 m1 d1] 99))
        have HO2 := Aside0.mk (Kd.R_below (Kd.R_below HO.out hb2) (below_alloc (Below.refl _ _) (.cells #[.int .u8 x1.f0, .slice A1 m1 d1] 99)))
        have x0 : (w2.alloc (.cells #[.int .u8 x1.f0, .slice A1 m1 d1] 99)).cell? ⟨w2.heap.size, 0, none⟩ = some (.int .u8 x1.f0) := (Blk.new w2 _ #[.int .u8 x1.f0, .slice A1 m1 d1]).cell 0
        have x1' : (w2.alloc (.cells #[.int .u8 x1.f0, .slice A1 m1 d1] 99)).cell? ⟨w2.heap.size, 1, none⟩ = some (.slice A1 m1 d1) := (Blk.new w2 _ #[.int .u8 x1.f0, .slice A1 m1 d1]).cell 1
        clear hM hM2 hx hb2 HP HFM HO HB
        go_upto_region 12 with fail
        generalize w2.alloc (.cells #[.int .u8 x1.f0, .slice A1 m1 d1] 99) = W at *
        go_wp2_with ((with_reducible refine gate_builtin (b := .append) (xs := #[.tmp 33, .tmp 35]) rfl ?_); at_builtin; refine Kd.R_append kNd (w0 := w) w.heap.size rfl (.tmp 33) (.tmp 35) 52 99 (.agg #[.int .u8 0, .slice none 0 0]) 32 rfl Tryz.underlying52 infoNd rfl (by decide) (by omega) _ ((l.take k).map (ndO n)) (ndO n s) [.int .u8 x1.f0, .slice A1 m1 d1] (fun _ => True) (fun q => wr.heap.size ≤ q) rfl rfl ?aP ?aK ?aF ?aO ?aB ?aS ?aL ?_; (case aP => rw [← HX.out]; exact kNd.M_lower HBW.out HM.out); (case aK => exact (fun q hq => ⟨trivial, fun he => by have := HOW.out q he.symm; omega⟩)); (case aF => exact (fun _ _ => trivial)); (case aO => exact HO2.out); (case aB => exact HB2.out); (case aS => exact HB2.out.size); (case aL => have := HL.out; omega); intro v1 w3 ho hb _ _; rw [← HS.out] at ho; have HO3 := Aside0.mk ho; have HB3 := Aside0.mk hb; clear ho hb)
        go_roundw
        case rel => exact ⟨k + 1, by omega, by go_num, HE3, HO3, HB3⟩
        case measure => simp [intOf]; omega
      · have he2 := HE2.out
        rw [if_neg hp] at he2
        have hpb : (parseE n s != 0) = true := bne_iff_ne.2 hp
        have HE3 := Aside0.mk he2
        have HPN := Aside0.mk hp
        clear he2 HE2 HE hp HFM
        have HP2 := Aside0.mk (HP.out.mono (R' := fun e w' => ∃ (x : SNd) (A : Option Addr) (m c : Nat), e = .returned (.tuple #[.agg #[.int .u8 x.f0, .slice A m c], .int .i64 (parseE n s)]) ∧ Below wr.heap.size wr w') (fun e w' ⟨x, A, m, c, h1, _, _, h2⟩ => ⟨x, A, m, c, h1, h2⟩))
        clear HP
        generalize parseE n s = er at *
        go_wp2_with fail
        refine HP2.out.mono ?_
        rintro e w2 ⟨x1, A1, m1, d1, rfl, hb2⟩
        have HB2 := Aside0.mk (below_alloc (below_then HB.out HB.out.size hb2) (.cells #[.int .u8 x1.f0, .slice A1 m1 d1] 99))
        clear hb2
        go_wp2_with fail
        go_ret2
        exact ⟨.slice none 0 0, (by rw [HE3.out]; rfl), HB2.out, fun h => absurd (HE3.out.symm.trans h) HPN.out, fun _ => rfl⟩
    · obtain rfl : n = k := by omega
      have HF := Aside0.mk (show firstE n l = 0 by rw [HE.out, List.drop_eq_nil_of_le (by have := HN.out; omega)]; rfl)
      have htk := HO.out
      rw [List.take_of_length_le (by have := HN.out; omega)] at htk
      have HO2 := Aside0.mk htk
      clear htk HE HO
      go_wp2_with fail
      go_ret2
      exact ⟨_, (by rw [HF.out]; rfl), HB.out, fun _ => HO2.out, fun h => absurd HF.out h⟩
theorem rread_any (l : List (List UInt8)) (w : World) (A : Option Addr) (c : Nat) (hr : Kd.C Kd.string w A l.length (l.map strL)) : Calls Tryz.prog 30 #[.slice A l.length c] w (ReadP l w) := by
  by_cases h : 10 < l.length
  · exact rread_long l w A c h
  · cases l with
    | nil => exact rread_nil w A c
    | cons s t =>
      have e : sysE (s :: t) = firstE (s :: t).length (s :: t) := by unfold sysE; rw [if_neg h, if_neg (by simp)]
      have e2 : (sysF (s :: t)).map ndF = (s :: t).map (ndO (s :: t).length) := by unfold sysF; rw [List.map_map]; rfl
      refine (rread_go (s :: t) w A c (s :: t).length rfl (by simp) (by omega) hr).mono fun e' w' ⟨v, h1, h2, h3, h4⟩ => ⟨v, ?_, h2, ?_, ?_⟩
      · rw [e]; exact h1
      · rw [e, e2]; exact h3
      · rw [e]; exact h4
end Go.Proofs.YtijaefmaceolbaaGreatDoor.Im

namespace Go.Proofs.YtijaefmaceolbaaGreatDoor.Im
open Go.RowKit Go.Proofs.YtijaefmaceolbaaGreatDoorW.PrintWords Go.Proofs.YtijaefmaceolbaaGreatDoorW.PrintLast Go.Proofs.YtijaefmaceolbaaGreatDoorW.PrintMore Go.Proofs.YtijaefmaceolbaaGreatDoor.Tr
set_option linter.unusedVariables false
set_option linter.unusedSimpArgs false
def RdGood (n : Nat) (fs : List Fm) (w : World) (e : Ending) (w' : World) : Prop :=
  ∃ A c, n ≤ c ∧ e = .returned (.tuple #[.slice A n c, .int .i64 0]) ∧ Kd.C kNd w' A n (fs.map ndF) ∧ Below w.heap.size w w'
theorem rread_good {l : List (List UInt8)} (h : sysE l = 0) (w : World) (A : Option Addr) (c : Nat) (hr : Kd.C Kd.string w A l.length (l.map strL)) :
    Calls Tryz.prog 30 #[.slice A l.length c] w (RdGood l.length (sysF l) w) :=
  (rread_any l w A c hr).mono fun e w' ⟨v, h1, h2, h3, _⟩ => by
    obtain ⟨A1, c1, rfl, hl, hC⟩ := Kd.R_reads (h3 h)
    have e1 : ((sysF l).map ndF).length = l.length := by rw [List.length_map, sysF_len]
    rw [e1] at hl hC h1
    exact ⟨A1, c1, hl, by rw [h1, h], hC, h2⟩
theorem rread_bad {l : List (List UInt8)} (h : sysE l ≠ 0) (w : World) (A : Option Addr) (c : Nat) (hr : Kd.C Kd.string w A l.length (l.map strL)) :
    Calls Tryz.prog 30 #[.slice A l.length c] w fun e w' => e = .returned (.tuple #[.slice none 0 0, .int .i64 (sysE l)]) ∧ Below w.heap.size w w' :=
  (rread_any l w A c hr).mono fun e w' ⟨v, h1, h2, _, h4⟩ => ⟨by rw [h1, h4 h], h2⟩
end Go.Proofs.YtijaefmaceolbaaGreatDoor.Im

namespace Go.Proofs.YtijaefmaceolbaaGreatDoor.Im
open Go.RowKit Go.Proofs.YtijaefmaceolbaaGreatDoorW.PrintWords Go.Proofs.YtijaefmaceolbaaGreatDoorW.PrintLast Go.Proofs.YtijaefmaceolbaaGreatDoorW.PrintMore Go.Proofs.YtijaefmaceolbaaGreatDoor.Tr
set_option linter.unusedVariables false
set_option linter.unusedSimpArgs false
theorem strs_of (l : List ByteArray) : ∃ L : List (List UInt8), l = L.map strL := ⟨l.map fun s => s.data.toList, by
  rw [List.map_map]
  exact (List.map_id _).symm.trans (List.map_congr_left fun s _ => by simp [strL])⟩
theorem strV_one (i : Nat) : strV (noneV i) ++ ⟨#[63]⟩ = strV (noneV (i + 1)) := by
  have h := strV_snoc (noneV i) none
  have e : noneV (i + 1) = noneV i ++ [none] := List.replicate_succ'
  rw [e, ← h]
  rfl
end Go.Proofs.YtijaefmaceolbaaGreatDoor.Im

