/- Further parts of the same walk: contracts of the functions that the law reaches, each under the conditions that it states. -/
import Derived.Test.YtijaefmaceolbaaDoorC8F
import Derived.Laws.ResultCell
namespace Go.Proofs.YtijaefmaceolbaaDoor.Im
open Go.RowKit Go.Proofs.YtijaefmaceolbaaDoorW.PrintWords Go.Proofs.YtijaefmaceolbaaDoorW.PrintLast Go.Proofs.YtijaefmaceolbaaDoorW.PrintMore Go.Proofs.YtijaefmaceolbaaDoor.Tr
set_option linter.unusedVariables false
set_option linter.unusedSimpArgs false
theorem form_any (g : Nat) (s : List UInt8) (many : Nat) (hm : many ≤ 10) (hs : s.length ≤ 40) : ∀ (k : Nat) (bad : Bool) (p : Nat) (w : World), p ≤ s.length → RB g s many p bad w → (bad = false → (s.drop p).length < k) →
      Calls Tryd.prog 99 #[.pointer (some ⟨g, 0, none⟩)] w (FormP g s many w (if bad then none else rdF many k (s.drop p)))
  | k, true, p, w, hp, h, _ => by
    rw [if_pos rfl]
    exact form_bad g s many p hp w h
  | 0, false, p, w, hp, h, hk => absurd (hk rfl) (by omega)
  | k + 1, false, p, w, hp, h, hk => by
    rw [if_neg (by simp)]
    exact form_succ g s many hm hs k p hp w h (form_any g s many hm hs k) (hk rfl)
theorem parse_of {n : Nat} {s : List UInt8} {p : Nat} {bad : Bool} {x : SNd} (h : RdOk s p bad x (rdF n (s.length + 1) s)) (hp : p ≤ s.length) (h40 : s.length ≤ 40) :
    ((bad = true ∨ p ≠ s.length) → parseE n s = 5) ∧ (bad = false → p = s.length → parseE n s = 0 ∧ ∃ f, parseO n s = some f ∧ x = ndF f) := by
  unfold parseE parseO
  rw [if_neg (by omega)]
  cases hq : rdF n (s.length + 1) s with
  | none =>
    rw [hq] at h
    have hb : bad = true := h
    subst hb
    exact ⟨fun _ => rfl, fun h => by cases h⟩
  | some q =>
    obtain ⟨f, t⟩ := q
    rw [hq] at h
    obtain ⟨h1, h2, h3⟩ := h
    subst h1
    refine ⟨fun hh => ?_, fun _ hpl => ?_⟩
    · have hne : p ≠ s.length := by rcases hh with hh | hh; cases hh; exact hh
      have : t ≠ [] := by
        rintro rfl
        have := List.drop_eq_nil_iff.1 h3
        omega
      cases t with
      | nil => exact absurd rfl this
      | cons c t => rfl
    · have : t = [] := by rw [← h3, hpl, List.drop_length]
      subst this
      exact ⟨rfl, f, rfl, h2⟩
def ParsedP (n : Nat) (s : List UInt8) (w : World) (e : Ending) (w' : World) : Prop :=
  ∃ (x : SNd) (A : Option Addr) (m c : Nat), e = .returned (.tuple #[.agg #[.int .u8 x.f0, .slice A m c], .int .i64 (parseE n s)]) ∧ kNd.M w' w.heap.size (fun _ => True) x [.int .u8 x.f0, .slice A m c] ∧ (parseE n s = 0 → ∃ f, parseO n s = some f ∧ x = ndF f) ∧ Below w.heap.size w w'
theorem ret2_node {x : Int} {A : Option Addr} {m c : Nat} {er : Int} {W : World} {gr : Nat} {Q : Ending → World → Prop} (hg : Blk W gr 84 #[.int .u8 x, .slice A m c]) (tmps : Array Value) (ht : tmps.getD 4 undef = .pointer (some ⟨gr, 0, none⟩)) (h5 : tmps.getD 5 undef = .int .i64 er)
    (h : Q (.returned (.tuple #[.agg #[.int .u8 x, .slice A m c], .int .i64 er])) W) : bodyPost Tryd.prog Tryd.f82 Q .ret { tmps := tmps, defers := [] } W := by
  refine bodyPost_ret (v := .tuple #[.agg #[.int .u8 x, .slice A m c], .int .i64 er]) ?_ rfl h
  have hl : (loadVar 84 ⟨gr, 0, none⟩).run Tryd.prog W = .ok (.agg #[.int .u8 x, .slice A m c]) W := run_loadVar_row W gr _ _ _ (0, 0) _ hg Tryd.underlying84 rfl nodeSz
  show (results Tryd.f82 tmps).run Tryd.prog W = _
  rw [results_cell_tmp (p := 4) (u := 5) (ty := 84) rfl, ht, h5]
  simp [asAddr, Result.andThen, hl]
set_option maxHeartbeats 1600000 in
set_option maxRecDepth 100000 in
theorem parsed_any (n : Nat) (hn : n ≤ 10) (s : List UInt8) (w : World) :
    Calls Tryd.prog 82 #[.string (strL s), .int .i64 (n : Nat)] w (ParsedP n s w) := by
  have hsz : (strL s).size = s.length := strL_size s
  have hb0 : Below w.heap.size w (w.alloc (.cells #[.int .u8 0, .slice none 0 0] 84)) := below_alloc (Below.refl _ _) _
  have HB0 := Aside0.mk hb0
  have HG := Aside0.mk (Blk.new w 84 #[.int .u8 0, .slice none 0 0])
  by_cases h40 : s.length ≤ 40
  · have d40 : decide ((s.length : Int) > 40) = false := decide_eq_false (by omega)
    have HR := Aside0.mk (show RB w.heap.size.succ s n 0 false ((w.alloc (.cells #[.int .u8 0, .slice none 0 0] 84)).alloc (.cells #[.string (strL s), .int .i64 0, .int .i64 (n : Nat), .bool false] 127)) from Blk.new' (by simp))
    have HC := Aside0.mk (form_any w.heap.size.succ s n hn h40 (s.length + 1) false 0 _ (Nat.zero_le _) HR.out (fun _ => by simp))
    rw [if_neg (by simp), List.drop_zero] at HC
    go_enter Tryd.func82, Tryd.ntmps82
    go_wp2_with fail
    refine HC.out.mono ?_
    intro e w2 hf
    obtain ⟨x1, A1, n1, m1, p1, bad1, rfl, hM1, hr1, hp1, hk1, ho1⟩ := hf.open
    have hG2 : Blk w2 w.heap.size 84 #[.int .u8 0, .slice none 0 0] := hk1.blk (HG.out.alloc _) (by show w.heap.size ≠ w.heap.size.succ; omega)
    have hb2 : Below w.heap.size w w2 := (below_alloc hb0 _).trans (hk1.below (by simp; omega) (fun i hi => by show i ≠ w.heap.size.succ; omega))
    have hba : Below w2.heap.size w2 (w2.alloc (.cells #[.int .u8 x1.f0, .slice A1 n1 m1] 84)) := below_alloc (Below.refl _ _) _
    have HB3 := Aside0.mk (below_alloc hb2 (.cells #[.int .u8 x1.f0, .slice A1 n1 m1] 84))
    have HG3 := Aside0.mk (hG2.alloc (.cells #[.int .u8 x1.f0, .slice A1 n1 m1] 84))
    have HR3 := Aside0.mk (show RB w.heap.size.succ s n p1 bad1 (w2.alloc (.cells #[.int .u8 x1.f0, .slice A1 n1 m1] 84)) from Blk.later hr1 hba)
    have HX3 := Aside0.mk (Blk.new w2 84 #[.int .u8 x1.f0, .slice A1 n1 m1])
    have HM3 := Aside0.mk (Kd.M_below hM1 hba)
    have HPF := Aside0.mk (parse_of ho1 hp1 h40)
    have hsz2 : w.heap.size < w2.heap.size := hG2.lt
    clear hf hM1 hr1 hk1 ho1 hba hb2 hG2 hb0 HC HR HB0 HG
    have c1 := HR3.out.c1
    have c3 := HR3.out.c3
    have g0 : (w2.alloc (.cells #[.int .u8 x1.f0, .slice A1 n1 m1] 84)).cell? ⟨w.heap.size, 0, none⟩ = some (.int .u8 0) := HG3.out.cell 0
    have g1 : (w2.alloc (.cells #[.int .u8 x1.f0, .slice A1 n1 m1] 84)).cell? ⟨w.heap.size, 1, none⟩ = some (.slice none 0 0) := HG3.out.cell 1
    have e0 := HG3.out.frozen 0
    have e1 := HG3.out.frozen 1
    have x0 : (w2.alloc (.cells #[.int .u8 x1.f0, .slice A1 n1 m1] 84)).cell? ⟨w2.heap.size, 0, none⟩ = some (.int .u8 x1.f0) := HX3.out.cell 0
    have x1' : (w2.alloc (.cells #[.int .u8 x1.f0, .slice A1 n1 m1] 84)).cell? ⟨w2.heap.size, 1, none⟩ = some (.slice A1 n1 m1) := HX3.out.cell 1
    by_cases hbp : bad1 = true ∨ p1 ≠ s.length
    · have HE := Aside0.mk (HPF.out.1 hbp)
      clear HPF
      have hpb : (bad1 = true) ∨ (bad1 = false ∧ ((p1 : Int) != (s.length : Int)) = true) := by
        cases bad1
        · refine .inr ⟨rfl, bne_iff_ne.2 ?_⟩
          rcases hbp with h | h
          · cases h
          · omega
        · exact .inl rfl
      clear hbp
      rcases hpb with rfl | ⟨rfl, hne⟩
      all_goals
        go_upto_region 5 with fail
        generalize w2.alloc (.cells #[.int .u8 x1.f0, .slice A1 n1 m1] 84) = W3 at *
        go_wp2_with fail
        refine ret2_node ((HG3.out.set_ 0 _).set_ 1 _) _ rfl rfl ⟨zNd, none, 0, 0, by rw [HE.out]; rfl, nd_zero _ _, fun h => (by rw [HE.out] at h; cases h), ?_⟩
        exact below_set (below_set HB3.out (Nat.le_refl _)) (Nat.le_refl _)
    · have hb1 : bad1 = false := by cases bad1; rfl; exact absurd (.inl rfl) hbp
      have hpe : p1 = s.length := Classical.byContradiction fun h => hbp (.inr h)
      subst hb1
      have HE := Aside0.mk (HPF.out.2 rfl hpe)
      have hne : ((p1 : Int) != (s.length : Int)) = false := bne_eq_false_iff_eq.2 (by omega)
      clear HPF hbp hpe
      go_upto_region 5 with fail
      generalize w2.alloc (.cells #[.int .u8 x1.f0, .slice A1 n1 m1] 84) = W3 at *
      go_wp2_with fail
      have hM4 := nd_keep HM3.out (((Keep.refl (fun i => i ≠ w.heap.size) W3).set_ w.heap.size 0 (.int .u8 x1.f0) (fun _ h => h rfl)).set_ w.heap.size 1 (.slice A1 n1 m1) (fun _ h => h rfl)) (fun k hk => by simp at hk; omega)
      refine ret2_node ((HG3.out.set_ 0 _).set_ 1 _) _ rfl rfl ⟨x1, A1, n1, m1, by rw [HE.out.1], kNd.M_lower (by simp; omega) hM4, fun _ => HE.out.2, ?_⟩
      exact below_set (below_set HB3.out (Nat.le_refl _)) (Nat.le_refl _)
  · have d40 : decide ((s.length : Int) > 40) = true := decide_eq_true (by omega)
    have g0 : (w.alloc (.cells #[.int .u8 0, .slice none 0 0] 84)).cell? ⟨w.heap.size, 0, none⟩ = some (.int .u8 0) := HG.out.cell 0
    have hE : parseE n s = 3 := by unfold parseE; rw [if_pos (by omega)]
    have HE := Aside0.mk hE
    clear hE hb0
    go_enter Tryd.func82, Tryd.ntmps82
    go_wp2_with fail
    exact ret2_node HG.out _ rfl rfl ⟨zNd, none, 0, 0, by rw [HE.out]; rfl, nd_zero _ _, fun h => (by rw [HE.out] at h; cases h), HB0.out⟩
end Go.Proofs.YtijaefmaceolbaaDoor.Im

namespace Go.Proofs.YtijaefmaceolbaaDoor.Im
open Go.RowKit Go.Proofs.YtijaefmaceolbaaDoorW.PrintWords Go.Proofs.YtijaefmaceolbaaDoorW.PrintLast Go.Proofs.YtijaefmaceolbaaDoorW.PrintMore Go.Proofs.YtijaefmaceolbaaDoor.Tr
attribute [local go_sem] max2_int min2_int max_two min_two max_three min_three max_four min_four
set_option linter.unusedVariables false
set_option linter.unusedSimpArgs false
def ReadP (l : List (List UInt8)) (w : World) (e : Ending) (w' : World) : Prop :=
  ∃ v, e = .returned (.tuple #[v, .int .i64 (sysE l)]) ∧ Below w.heap.size w w' ∧ (sysE l = 0 → Kd.R kNd 84 w' w.heap.size (fun _ => True) v ((sysF l).map ndF)) ∧ (sysE l ≠ 0 → v = .slice none 0 0)
theorem rread_long (l : List (List UInt8)) (w : World) (A : Option Addr) (c : Nat) (h : 10 < l.length) : Calls Tryd.prog 52 #[.slice A l.length c] w (ReadP l w) := by
  have HE := Aside0.mk (show sysE l = 3 by unfold sysE; rw [if_pos h])
  have hb : decide (10 < (l.length : Int)) = true := decide_eq_true (by omega)
  have hb' : decide (10 < l.length) = true := decide_eq_true (by omega)
  go_enter Tryd.func52, Tryd.ntmps52
  go_wp2_with fail
  go_ret2
  exact ⟨.slice none 0 0, (by rw [HE.out]; rfl), Below.refl _ _, fun h => (by rw [HE.out] at h; cases h), fun _ => rfl⟩
theorem rread_nil (w : World) (A : Option Addr) (c : Nat) : Calls Tryd.prog 52 #[.slice A (([] : List (List UInt8)).length) c] w (ReadP [] w) := by
  have HE := Aside0.mk (show sysE [] = 2 from rfl)
  go_enter Tryd.func52, Tryd.ntmps52
  go_wp2_with fail
  go_ret2
  exact ⟨.slice none 0 0, (by rw [HE.out]; rfl), Below.refl _ _, fun h => (by rw [HE.out] at h; cases h), fun _ => rfl⟩
def ndO (n : Nat) (s : List UInt8) : SNd := ndF (fmO n s)
theorem ndO_snoc {n : Nat} {l : List (List UInt8)} {k : Nat} (h : k < l.length) : (l.take (k + 1)).map (ndO n) = (l.take k).map (ndO n) ++ [ndO n (l.getD k [])] := by
  rw [List.take_succ_eq_append_getElem h, List.map_append]
  simp [h]
def ReadGo (n : Nat) (l : List (List UInt8)) (w : World) (e : Ending) (w' : World) : Prop :=
  ∃ v, e = .returned (.tuple #[v, .int .i64 (firstE n l)]) ∧ Below w.heap.size w w' ∧ (firstE n l = 0 → Kd.R kNd 84 w' w.heap.size (fun _ => True) v (l.map (ndO n))) ∧ (firstE n l ≠ 0 → v = .slice none 0 0)
set_option maxHeartbeats 1600000 in
set_option maxRecDepth 100000 in
theorem rread_go (l : List (List UInt8)) (w : World) (A : Option Addr) (c n : Nat) (hn : l.length = n) (h1 : 0 < n) (h2 : n ≤ 10) (hr : Kd.C Kd.string w A n (l.map strL)) : Calls Tryd.prog 52 #[.slice A n c] w (ReadGo n l w) := by
  have hb : decide (10 < (n : Int)) = false := decide_eq_false (by omega)
  have hb' : decide (10 < n) = false := decide_eq_false (by omega)
  have hz : ((n : Int) == 0) = false := beq_eq_false_iff_ne.2 (by omega)
  have n0 : (0 : Int) ≤ (n : Int) := by omega
  have HR := Aside0.mk hr
  have HN := Aside0.mk hn
  have HB0 := Aside0.mk (Below.refl w.heap.size w)
  clear hr hn
  go_enter Tryd.func52, Tryd.ntmps52
  go_wp2_with fail
  go_loopw [4, 5] (fun v v5 wr => ∃ k : Nat, k ≤ n ∧ v5 = .int .i64 (k : Int) ∧ Aside0 (firstE n l = firstE n (l.drop k)) ∧ Aside0 (Kd.R kNd 84 wr w.heap.size (fun _ => True) v ((l.take k).map (ndO n))) ∧ Aside0 (Below w.heap.size w wr)) (fun _ v5 _ => n - (intOf v5).toNat)
  case atStart => exact ⟨0, by omega, rfl, ⟨rfl⟩, ⟨Kd.R_nil _ _ _ _ _⟩, HB0⟩
  case round =>
    clear HB0
    obtain ⟨k, hk, rfl, HE, HO, HB⟩ := hrel
    have k0 : (0 : Int) ≤ (k : Int) := by omega
    by_cases hkn : k < n
    · have hkn' : (k : Int) < (n : Int) := by omega
      have hkl : k < l.length := by have := HN.out; omega
      obtain ⟨ad, rfl, hcell⟩ := Kd.at_string (Kd.C_below HR.out HB.out) (k : Int) k0 hkn'
      rw [rd_strL l k hkl, Int.toNat_natCast] at hcell
      have HP := Aside0.mk (parsed_any n h2 (l.getD k []) wr)
      have HE2 := Aside0.mk (HE.out.trans (firstE_drop hkl))
      have HS := Aside0.mk (ndO_snoc (n := n) hkl)
      have hlen : ((l.take k).map (ndO n)).length ≤ 10 := by rw [List.length_map, List.length_take]; omega
      have HL := Aside0.mk hlen
      clear hkl hlen
      have hfm : ∀ x, (parseE n (l.getD k []) = 0 → ∃ f, parseO n (l.getD k []) = some f ∧ x = ndF f) → parseE n (l.getD k []) = 0 → x = ndO n (l.getD k []) := fun x h h0 => by
        obtain ⟨f, hf, hx⟩ := h h0
        rw [hx, ndO, fmO, hf]
        rfl
      have HFM := Aside0.mk hfm
      clear hfm
      generalize l.getD k [] = s at *
      have HBW := Aside0.mk HB.out.size
      obtain ⟨I, hO⟩ := Kd.R_own HO.out
      have HOW := Aside0.mk (fun b hb => own_lt hO b hb)
      clear hO
      by_cases hp : parseE n s = 0
      · have he2 := HE2.out
        rw [if_pos hp] at he2
        have HE3 := Aside0.mk he2
        have HZ := Aside0.mk hp
        clear he2 HE2 HE hp
        go_wp2_with fail
        refine HP.out.mono ?_
        rintro e w2 ⟨x1, A1, m1, d1, rfl, hM, hx, hb2⟩
        rw [HZ.out]
        have HX := Aside0.mk (HFM.out x1 hx HZ.out)
        have hM2 := kNd.M_mono (ok' := fun q => wr.heap.size ≤ q) (fun q hq => hq.2.1) (kNd.M_bound hM)
        have HM := Aside0.mk (Kd.M_below hM2 (below_alloc (Below.refl _ _) (.cells #[.int .u8 x1.f0, .slice A1 m1 d1] 84)))
        have HB2 := Aside0.mk (below_alloc (below_then HB.out HB.out.size hb2) (.cells #[.int .u8 x1.f0, .slice A1 m1 d1] 84))
        have HO2 := Aside0.mk (Kd.R_below (Kd.R_below HO.out hb2) (below_alloc (Below.refl _ _) (.cells #[.int .u8 x1.f0, .slice A1 m1 d1] 84)))
        have x0 : (w2.alloc (.cells #[.int .u8 x1.f0, .slice A1 m1 d1] 84)).cell? ⟨w2.heap.size, 0, none⟩ = some (.int .u8 x1.f0) := (Blk.new w2 _ #[.int .u8 x1.f0, .slice A1 m1 d1]).cell 0
        have x1' : (w2.alloc (.cells #[.int .u8 x1.f0, .slice A1 m1 d1] 84)).cell? ⟨w2.heap.size, 1, none⟩ = some (.slice A1 m1 d1) := (Blk.new w2 _ #[.int .u8 x1.f0, .slice A1 m1 d1]).cell 1
        clear hM hM2 hx hb2 HP HFM HO HB
        go_upto_region 12 with fail
        generalize w2.alloc (.cells #[.int .u8 x1.f0, .slice A1 m1 d1] 84) = W at *
        go_wp2_with ((with_reducible refine gate_builtin (b := .append) (xs := #[.tmp 33, .tmp 35]) rfl ?_); at_builtin; refine Kd.R_append kNd (w0 := w) w.heap.size rfl (.tmp 33) (.tmp 35) 67 84 (.agg #[.int .u8 0, .slice none 0 0]) 32 rfl Tryd.underlying67 infoNd rfl (by decide) (by omega) _ ((l.take k).map (ndO n)) (ndO n s) [.int .u8 x1.f0, .slice A1 m1 d1] (fun _ => True) (fun q => wr.heap.size ≤ q) rfl rfl ?aP ?aK ?aF ?aO ?aB ?aS ?aL ?_; (case aP => rw [← HX.out]; exact kNd.M_lower HBW.out HM.out); (case aK => exact (fun q hq => ⟨trivial, fun he => by have := HOW.out q he.symm; omega⟩)); (case aF => exact (fun _ _ => trivial)); (case aO => exact HO2.out); (case aB => exact HB2.out); (case aS => exact HB2.out.size); (case aL => have := HL.out; omega); intro v1 w3 ho hb _ _; rw [← HS.out] at ho; have HO3 := Aside0.mk ho; have HB3 := Aside0.mk hb; clear ho hb)
        go_roundw
        case rel => exact ⟨k + 1, by omega, by go_num, HE3, HO3, HB3⟩
        case measure => simp [intOf]; omega
      · have he2 := HE2.out
        rw [if_neg hp] at he2
        have hpb : (parseE n s != 0) = true := bne_iff_ne.2 hp
        have HE3 := Aside0.mk he2
        have HPN := Aside0.mk hp
        clear he2 HE2 HE hp HFM
        have HP2 := Aside0.mk (HP.out.mono (R' := fun e w' => ∃ (x : SNd) (A : Option Addr) (m c : Nat), e = .returned (.tuple #[.agg #[.int .u8 x.f0, .slice A m c], .int .i64 (parseE n s)]) ∧ Below wr.heap.size wr w') (fun e w' ⟨x, A, m, c, h1, _, _, h2⟩ => ⟨x, A, m, c, h1, h2⟩))
        clear HP
        generalize parseE n s = er at *
        go_wp2_with fail
        refine HP2.out.mono ?_
        rintro e w2 ⟨x1, A1, m1, d1, rfl, hb2⟩
        have HB2 := Aside0.mk (below_alloc (below_then HB.out HB.out.size hb2) (.cells #[.int .u8 x1.f0, .slice A1 m1 d1] 84))
        clear hb2
        go_wp2_with fail
        go_ret2
        exact ⟨.slice none 0 0, (by rw [HE3.out]; rfl), HB2.out, fun h => absurd (HE3.out.symm.trans h) HPN.out, fun _ => rfl⟩
    · obtain rfl : n = k := by omega
      have HF := Aside0.mk (show firstE n l = 0 by rw [HE.out, List.drop_eq_nil_of_le (by have := HN.out; omega)]; rfl)
      have htk := HO.out
      rw [List.take_of_length_le (by have := HN.out; omega)] at htk
      have HO2 := Aside0.mk htk
      clear htk HE HO
      go_wp2_with fail
      go_ret2
      exact ⟨_, (by rw [HF.out]; rfl), HB.out, fun _ => HO2.out, fun h => absurd HF.out h⟩
theorem rread_any (l : List (List UInt8)) (w : World) (A : Option Addr) (c : Nat) (hr : Kd.C Kd.string w A l.length (l.map strL)) : Calls Tryd.prog 52 #[.slice A l.length c] w (ReadP l w) := by
  by_cases h : 10 < l.length
  · exact rread_long l w A c h
  · cases l with
    | nil => exact rread_nil w A c
    | cons s t =>
      have e : sysE (s :: t) = firstE (s :: t).length (s :: t) := by unfold sysE; rw [if_neg h, if_neg (by simp)]
      have e2 : (sysF (s :: t)).map ndF = (s :: t).map (ndO (s :: t).length) := by unfold sysF; rw [List.map_map]; rfl
      refine (rread_go (s :: t) w A c (s :: t).length rfl (by simp) (by omega) hr).mono fun e' w' ⟨v, h1, h2, h3, h4⟩ => ⟨v, ?_, h2, ?_, ?_⟩
      · rw [e]; exact h1
      · rw [e, e2]; exact h3
      · rw [e]; exact h4
end Go.Proofs.YtijaefmaceolbaaDoor.Im

namespace Go.Proofs.YtijaefmaceolbaaDoor.Im
open Go.RowKit Go.Proofs.YtijaefmaceolbaaDoorW.PrintWords Go.Proofs.YtijaefmaceolbaaDoorW.PrintLast Go.Proofs.YtijaefmaceolbaaDoorW.PrintMore
attribute [local go_sem] max2_int min2_int max_two min_two max_three min_three max_four min_four
set_option linter.unusedVariables false
set_option linter.unusedSimpArgs false
mutual
def pomaderef01_value.j0 : Nat → ByteArray → Int → Bool → Int → List (SNd) → Option (Int)
  | 0, _, _, _, _, _ => none
  | k + 1, x1, x11, x12, x168000, x168001 => if x12 = true then (some x168000) else (if x11 = 33 then (if 0 < (x168001.length : Int) then ((pomaderef01_value.f k ((rd_TNd x168001 0).f0) ((rd_TNd x168001 0).f1) x1).bind fun t169 => (if t169 = 63 then (some t169) else (some ((97 - t169) % 256)))) else (none)) else (if x11 = 38 then (pomaderef01_value.j1 k x1 (x11 == 38) x168000 x168001) else (if x11 = 124 then (pomaderef01_value.j1 k x1 (x11 == 124) x168000 x168001) else (pomaderef01_value.j1 k x1 (x11 == 61) x168000 x168001))))
def pomaderef01_value.j1 : Nat → ByteArray → Bool → Int → List (SNd) → Option (Int)
  | 0, _, _, _, _ => none
  | k + 1, x1, x30, x168000, x168001 => if x30 = true then (if 0 < (x168001.length : Int) then ((pomaderef01_value.f k ((rd_TNd x168001 0).f0) ((rd_TNd x168001 0).f1) x1).bind fun t171 => (if 1 < (x168001.length : Int) then ((pomaderef01_value.f k ((rd_TNd x168001 1).f0) ((rd_TNd x168001 1).f1) x1).bind fun t173 => (if x168000 = 124 then (pomaderef01_value.j2 k t171 t173 49 48 x168000 x168001) else (pomaderef01_value.j2 k t171 t173 48 49 x168000 x168001))) else (none))) else (none)) else (if 0 ≤ ((x168000 - 97) % 256) then (if ((x168000 - 97) % 256) < (x1.size : Int) then (some (bt x1 ((x168000 - 97) % 256))) else (none)) else (none))
def pomaderef01_value.j2 : Nat → Int → Int → Int → Int → Int → List (SNd) → Option (Int)
  | 0, _, _, _, _, _, _ => none
  | k + 1, x6, x7, x8, x9, x168000, x168001 => if x168000 = 61 then (if x6 = 63 then (pomaderef01_value.j3 k x6 x7 x8 x9 true x168000 x168001) else (pomaderef01_value.j3 k x6 x7 x8 x9 (x7 == 63) x168000 x168001)) else (pomaderef01_value.j3 k x6 x7 x8 x9 false x168000 x168001)
def pomaderef01_value.j3 : Nat → Int → Int → Int → Int → Bool → Int → List (SNd) → Option (Int)
  | 0, _, _, _, _, _, _, _ => none
  | k + 1, x6, x7, x8, x9, x49, x168000, x168001 => if x49 = true then (some 63) else (if x168000 = 61 then (pomaderef01_value.j4 k x6 x7 x8 x9 (x6 == x7) x168000 x168001) else (pomaderef01_value.j4 k x6 x7 x8 x9 false x168000 x168001))
def pomaderef01_value.j4 : Nat → Int → Int → Int → Int → Bool → Int → List (SNd) → Option (Int)
  | 0, _, _, _, _, _, _, _ => none
  | k + 1, x6, x7, x8, x9, x61, x168000, x168001 => if x61 = true then (some 49) else (if x168000 = 61 then (some 48) else (if x6 = x8 then (pomaderef01_value.j5 k x6 x7 x8 x9 true) else (pomaderef01_value.j5 k x6 x7 x8 x9 (x7 == x8))))
def pomaderef01_value.j5 : Nat → Int → Int → Int → Int → Bool → Option (Int)
  | 0, _, _, _, _, _ => none
  | k + 1, x6, x7, x8, x9, x74 => if x74 = true then (some x8) else (if x6 = x9 then (if x7 = x9 then (some x9) else (some 63)) else (some 63))
def pomaderef01_value.f : Nat → Int → List (SNd) → ByteArray → Option (Int)
  | 0, _, _, _ => none
  | k + 1, a0_0, l0_1, a1 => if a0_0 = 48 then (pomaderef01_value.j0 k a1 a0_0 (a0_0 == 48) a0_0 l0_1) else (pomaderef01_value.j0 k a1 a0_0 (a0_0 == 49) a0_0 l0_1)
end
theorem pomaderef01_value.mono_l : ∀ k, (∀ y0 y1 y2, LeO (pomaderef01_value.f k y0 y1 y2) (pomaderef01_value.f (k + 1) y0 y1 y2)) ∧ (∀ y0 y1 y2 y3 y4, LeO (pomaderef01_value.j0 k y0 y1 y2 y3 y4) (pomaderef01_value.j0 (k + 1) y0 y1 y2 y3 y4)) ∧ (∀ y0 y1 y2 y3, LeO (pomaderef01_value.j1 k y0 y1 y2 y3) (pomaderef01_value.j1 (k + 1) y0 y1 y2 y3)) ∧ (∀ y0 y1 y2 y3 y4 y5, LeO (pomaderef01_value.j2 k y0 y1 y2 y3 y4 y5) (pomaderef01_value.j2 (k + 1) y0 y1 y2 y3 y4 y5)) ∧ (∀ y0 y1 y2 y3 y4 y5 y6, LeO (pomaderef01_value.j3 k y0 y1 y2 y3 y4 y5 y6) (pomaderef01_value.j3 (k + 1) y0 y1 y2 y3 y4 y5 y6)) ∧ (∀ y0 y1 y2 y3 y4 y5 y6, LeO (pomaderef01_value.j4 k y0 y1 y2 y3 y4 y5 y6) (pomaderef01_value.j4 (k + 1) y0 y1 y2 y3 y4 y5 y6)) ∧ (∀ y0 y1 y2 y3 y4, LeO (pomaderef01_value.j5 k y0 y1 y2 y3 y4) (pomaderef01_value.j5 (k + 1) y0 y1 y2 y3 y4))
  | 0 => ⟨fun _ _ _ r h => by simp [pomaderef01_value.f] at h, fun _ _ _ _ _ r h => by simp [pomaderef01_value.j0] at h, fun _ _ _ _ r h => by simp [pomaderef01_value.j1] at h, fun _ _ _ _ _ _ r h => by simp [pomaderef01_value.j2] at h, fun _ _ _ _ _ _ _ r h => by simp [pomaderef01_value.j3] at h, fun _ _ _ _ _ _ _ r h => by simp [pomaderef01_value.j4] at h, fun _ _ _ _ _ r h => by simp [pomaderef01_value.j5] at h⟩
  | k + 1 => by
    obtain ⟨ih0, ih1, ih2, ih3, ih4, ih5, ih6⟩ := pomaderef01_value.mono_l k
    refine ⟨?_, ?_, ?_, ?_, ?_, ?_, ?_⟩
    · intro y0 y1 y2
      unfold pomaderef01_value.f
      repeat' first
      | (with_reducible exact ih0 _ _ _)
      | (with_reducible exact ih1 _ _ _ _ _)
      | (with_reducible exact ih2 _ _ _ _)
      | (with_reducible exact ih3 _ _ _ _ _ _)
      | (with_reducible exact ih4 _ _ _ _ _ _ _)
      | (with_reducible exact ih5 _ _ _ _ _ _ _)
      | (with_reducible exact ih6 _ _ _ _ _)
      | (with_reducible exact LeO.refl _)
      | (with_reducible exact LeO.none _)
      | (with_reducible refine LeO.ite ?_ ?_)
      | (with_reducible refine LeO.bind ?_ (fun _ => ?_))
      | exact ih0 _ _ _
      | exact ih1 _ _ _ _ _
      | exact ih2 _ _ _ _
      | exact ih3 _ _ _ _ _ _
      | exact ih4 _ _ _ _ _ _ _
      | exact ih5 _ _ _ _ _ _ _
      | exact ih6 _ _ _ _ _
      | exact LeO.none _
      | refine LeO.ite ?_ ?_
      | refine LeO.bind ?_ (fun _ => ?_)
    · intro y0 y1 y2 y3 y4
      unfold pomaderef01_value.j0
      repeat' first
      | (with_reducible exact ih0 _ _ _)
      | (with_reducible exact ih1 _ _ _ _ _)
      | (with_reducible exact ih2 _ _ _ _)
      | (with_reducible exact ih3 _ _ _ _ _ _)
      | (with_reducible exact ih4 _ _ _ _ _ _ _)
      | (with_reducible exact ih5 _ _ _ _ _ _ _)
      | (with_reducible exact ih6 _ _ _ _ _)
      | (with_reducible exact LeO.refl _)
      | (with_reducible exact LeO.none _)
      | (with_reducible refine LeO.ite ?_ ?_)
      | (with_reducible refine LeO.bind ?_ (fun _ => ?_))
      | exact ih0 _ _ _
      | exact ih1 _ _ _ _ _
      | exact ih2 _ _ _ _
      | exact ih3 _ _ _ _ _ _
      | exact ih4 _ _ _ _ _ _ _
      | exact ih5 _ _ _ _ _ _ _
      | exact ih6 _ _ _ _ _
      | exact LeO.none _
      | refine LeO.ite ?_ ?_
      | refine LeO.bind ?_ (fun _ => ?_)
    · intro y0 y1 y2 y3
      unfold pomaderef01_value.j1
      repeat' first
      | (with_reducible exact ih0 _ _ _)
      | (with_reducible exact ih1 _ _ _ _ _)
      | (with_reducible exact ih2 _ _ _ _)
      | (with_reducible exact ih3 _ _ _ _ _ _)
      | (with_reducible exact ih4 _ _ _ _ _ _ _)
      | (with_reducible exact ih5 _ _ _ _ _ _ _)
      | (with_reducible exact ih6 _ _ _ _ _)
      | (with_reducible exact LeO.refl _)
      | (with_reducible exact LeO.none _)
      | (with_reducible refine LeO.ite ?_ ?_)
      | (with_reducible refine LeO.bind ?_ (fun _ => ?_))
      | exact ih0 _ _ _
      | exact ih1 _ _ _ _ _
      | exact ih2 _ _ _ _
      | exact ih3 _ _ _ _ _ _
      | exact ih4 _ _ _ _ _ _ _
      | exact ih5 _ _ _ _ _ _ _
      | exact ih6 _ _ _ _ _
      | exact LeO.none _
      | refine LeO.ite ?_ ?_
      | refine LeO.bind ?_ (fun _ => ?_)
    · intro y0 y1 y2 y3 y4 y5
      unfold pomaderef01_value.j2
      repeat' first
      | (with_reducible exact ih0 _ _ _)
      | (with_reducible exact ih1 _ _ _ _ _)
      | (with_reducible exact ih2 _ _ _ _)
      | (with_reducible exact ih3 _ _ _ _ _ _)
      | (with_reducible exact ih4 _ _ _ _ _ _ _)
      | (with_reducible exact ih5 _ _ _ _ _ _ _)
      | (with_reducible exact ih6 _ _ _ _ _)
      | (with_reducible exact LeO.refl _)
      | (with_reducible exact LeO.none _)
      | (with_reducible refine LeO.ite ?_ ?_)
      | (with_reducible refine LeO.bind ?_ (fun _ => ?_))
      | exact ih0 _ _ _
      | exact ih1 _ _ _ _ _
      | exact ih2 _ _ _ _
      | exact ih3 _ _ _ _ _ _
      | exact ih4 _ _ _ _ _ _ _
      | exact ih5 _ _ _ _ _ _ _
      | exact ih6 _ _ _ _ _
      | exact LeO.none _
      | refine LeO.ite ?_ ?_
      | refine LeO.bind ?_ (fun _ => ?_)
    · intro y0 y1 y2 y3 y4 y5 y6
      unfold pomaderef01_value.j3
      repeat' first
      | (with_reducible exact ih0 _ _ _)
      | (with_reducible exact ih1 _ _ _ _ _)
      | (with_reducible exact ih2 _ _ _ _)
      | (with_reducible exact ih3 _ _ _ _ _ _)
      | (with_reducible exact ih4 _ _ _ _ _ _ _)
      | (with_reducible exact ih5 _ _ _ _ _ _ _)
      | (with_reducible exact ih6 _ _ _ _ _)
      | (with_reducible exact LeO.refl _)
      | (with_reducible exact LeO.none _)
      | (with_reducible refine LeO.ite ?_ ?_)
      | (with_reducible refine LeO.bind ?_ (fun _ => ?_))
      | exact ih0 _ _ _
      | exact ih1 _ _ _ _ _
      | exact ih2 _ _ _ _
      | exact ih3 _ _ _ _ _ _
      | exact ih4 _ _ _ _ _ _ _
      | exact ih5 _ _ _ _ _ _ _
      | exact ih6 _ _ _ _ _
      | exact LeO.none _
      | refine LeO.ite ?_ ?_
      | refine LeO.bind ?_ (fun _ => ?_)
    · intro y0 y1 y2 y3 y4 y5 y6
      unfold pomaderef01_value.j4
      repeat' first
      | (with_reducible exact ih0 _ _ _)
      | (with_reducible exact ih1 _ _ _ _ _)
      | (with_reducible exact ih2 _ _ _ _)
      | (with_reducible exact ih3 _ _ _ _ _ _)
      | (with_reducible exact ih4 _ _ _ _ _ _ _)
      | (with_reducible exact ih5 _ _ _ _ _ _ _)
      | (with_reducible exact ih6 _ _ _ _ _)
      | (with_reducible exact LeO.refl _)
      | (with_reducible exact LeO.none _)
      | (with_reducible refine LeO.ite ?_ ?_)
      | (with_reducible refine LeO.bind ?_ (fun _ => ?_))
      | exact ih0 _ _ _
      | exact ih1 _ _ _ _ _
      | exact ih2 _ _ _ _
      | exact ih3 _ _ _ _ _ _
      | exact ih4 _ _ _ _ _ _ _
      | exact ih5 _ _ _ _ _ _ _
      | exact ih6 _ _ _ _ _
      | exact LeO.none _
      | refine LeO.ite ?_ ?_
      | refine LeO.bind ?_ (fun _ => ?_)
    · intro y0 y1 y2 y3 y4
      unfold pomaderef01_value.j5
      repeat' first
      | (with_reducible exact ih0 _ _ _)
      | (with_reducible exact ih1 _ _ _ _ _)
      | (with_reducible exact ih2 _ _ _ _)
      | (with_reducible exact ih3 _ _ _ _ _ _)
      | (with_reducible exact ih4 _ _ _ _ _ _ _)
      | (with_reducible exact ih5 _ _ _ _ _ _ _)
      | (with_reducible exact ih6 _ _ _ _ _)
      | (with_reducible exact LeO.refl _)
      | (with_reducible exact LeO.none _)
      | (with_reducible refine LeO.ite ?_ ?_)
      | (with_reducible refine LeO.bind ?_ (fun _ => ?_))
      | exact ih0 _ _ _
      | exact ih1 _ _ _ _ _
      | exact ih2 _ _ _ _
      | exact ih3 _ _ _ _ _ _
      | exact ih4 _ _ _ _ _ _ _
      | exact ih5 _ _ _ _ _ _ _
      | exact ih6 _ _ _ _ _
      | exact LeO.none _
      | refine LeO.ite ?_ ?_
      | refine LeO.bind ?_ (fun _ => ?_)
theorem pomaderef01_value.mono : ∀ a0 a1 a2 k, LeO (pomaderef01_value.f k a0 a1 a2) (pomaderef01_value.f (k + 1) a0 a1 a2) := by
  intro a0 a1 a2 k
  obtain ⟨ih0, ih1, ih2, ih3, ih4, ih5, ih6⟩ := pomaderef01_value.mono_l k
  exact ih0 a0 a1 a2
def pomaderef01_value.T13 : Bool × List (List Nat × List Nat) := (true, [([], []), ([0], [0]), ([1], [1]), ([2], [2]), ([], []), ([3, 4], [3, 4]), ([], []), ([6], [6]), ([7], [7]), ([8], [8]), ([], []), ([9, 10, 5], [9, 10]), ([5, 11, 0, 1, 2, 3, 4, 5], [5]), ([11, 12, 0, 1, 2, 3, 4, 5, 6, 7, 8, 9, 10, 11, 12], [11])])
def pomaderef01_value.B13 : List Nat := [0, 1, 3, 7, 0, 31, 0, 64, 192, 448, 0, 2047, 4095, 8191]
theorem pomaderef01_value.tab13 : rtab .any (opsOf Tryd.f84 13) = pomaderef01_value.T13 := by kernel_rfl
theorem pomaderef01_value.bits13 : waitsOk pomaderef01_value.T13.2 pomaderef01_value.B13 = true := by kernel_rfl
set_option maxHeartbeats 8000000 in
set_option maxRecDepth 100000 in
theorem pomaderef01_value.calls (k : Nat) : ∀ (a0_0 : Int) (A0_1 : Option Addr) (c0_1 : Nat) (l0_1 : List (SNd)) (a1 : ByteArray) (r : Int) (w : World) (hr0_1 : Kd.C kNd w A0_1 l0_1.length l0_1) (hc0_1 : l0_1.length ≤ c0_1) (h : pomaderef01_value.f k a0_0 l0_1 a1 = some r),
    Calls Tryd.prog 84 #[.agg #[.int .u8 a0_0, .slice A0_1 l0_1.length c0_1], .string a1] w fun e w' => e = .returned (.int .u8 r) ∧ Below w.heap.size w w' := by
  induction k using Nat.strongRecOn with
  | _ k ih =>
  intro a0_0 A0_1 c0_1 l0_1 a1 r w hr0_1 hc0_1 h
  cases k with
  | zero => exact absurd h (by simp [pomaderef01_value.f])
  | succ k =>
  simp only [pomaderef01_value.f] at h
  have hu84 := Tryd.underlying84
  have HR0_1 := Aside0.mk hr0_1
  have HC0_1 := Aside0.mk hc0_1
  clear hr0_1 hc0_1
  have HB := Aside0.mk (Below.refl w.heap.size w)
  have H : (if a0_0 = 48 then (pomaderef01_value.j0 k a1 a0_0 (a0_0 == 48) a0_0 l0_1) else (pomaderef01_value.j0 k a1 a0_0 (a0_0 == 49) a0_0 l0_1)) = some r := h
  clear h
  have HC3 := Aside0.mk H
  clear H
  go_enter Tryd.func84, Tryd.ntmps84
  go_upto_if 12 with (first | ((with_reducible refine gate_dst (N := 2) rfl ?_); refine box_event ?hg (N := 2) ?hd (cs := #[.int .u8 a0_0, .slice A0_1 l0_1.length c0_1]) (t := 84) ?hr ?_; (case hd => rfl); (case hg => rfl); (case hr => first | (go_simp; done) | (go_simp; rfl)); intro gb167 hg w4 hbox hb; have n0_ := Aside0.mk (below_step (by repeat (first | (with_reducible first | exact HB.out | apply below_alloc | apply pw_below_drewN | apply below_drew1) | exact HB.out)) hb); have n1_ := Aside0.mk (hbox); have n2_ := Aside0.mk ((by rw [hg]; exact (below_size (by repeat (first | (with_reducible first | exact HB.out | apply below_alloc | apply pw_below_drewN | apply below_drew1) | exact HB.out))) : w.heap.size ≤ gb167)); have n3_ := Aside0.mk ((by rw [hg]; exact (below_size (by repeat (first | (with_reducible first | exact HB.out | apply below_alloc | apply pw_below_drewN | apply below_drew1) | exact HB.out))) : w.heap.size ≤ gb167)); clear HB; have HB := n0_; have BK167 := n1_; have GW167 := n2_; have GE167 := n3_; clear n0_ n1_ n2_ n3_; clear hb hbox hg; have hcz5_0 : w4.cell? ⟨gb167, 0, none⟩ = some (.int .u8 a0_0) := (blk_cell BK167.out 0).trans rfl; have hcz5_1 : w4.cell? ⟨gb167, 1, none⟩ = some (.slice A0_1 l0_1.length c0_1) := (blk_cell BK167.out 1).trans rfl; have hfz5_0 := blk_frozen BK167.out 0; have hfz5_1 := blk_frozen BK167.out 1))
  (try simp only [Act.put, List.setIfInBounds_toArray, List.set_cons_zero, List.set_cons_succ])
  go_cut [12] (fun v12 wc => ∃ (kq : Nat) (x12_2 : Bool), v12 = .bool x12_2 ∧ Aside0 (pomaderef01_value.j0 kq a1 a0_0 x12_2 a0_0 l0_1 = some r) ∧ Aside0 (kq ≤ k) ∧ Aside0 (wc.heap[gb167]? = some (.cells #[.int .u8 a0_0, (.slice A0_1 l0_1.length c0_1)] 84 (0, 0))) ∧ Aside0 (Below w.heap.size w wc))
  case first =>
    have H := HC3.out
    clear HC3
    by_cases c6 : a0_0 = 48
    · rw [if_pos c6] at H
      have c6b0 : (a0_0 == 48) = true := beq_iff_eq.mpr c6
      have c6b1 : (a0_0 != 48) = false := bne_eq_false_iff_eq.mpr c6
      clear c6
      (first | rw [c6b0] | (simp only [i64_w, i32_w]; rw [c6b0]) | skip)
      have H' := Aside0.mk H
      clear H
      go_wp2
      go_meet
      case rel => exact ⟨_, ((a0_0 == 48)), (by first | rfl | (simp; done) | (simp [*]; done)), H', ⟨by first | omega | exact Nat.le_refl _⟩, ⟨by (with_reducible repeat (first | refine blk_drewN ?_ _ | refine blk_drew ?_ | refine blk_alloc ?_ _)); exact BK167.out⟩, ⟨by repeat (first | (with_reducible first | exact HB.out | apply below_alloc | apply pw_below_drewN | apply below_drew1 | refine below_set ?_ GE167.out) | exact HB.out)⟩⟩
    · rw [if_neg c6] at H
      have c6b0 : (a0_0 == 48) = false := beq_eq_false_iff_ne.mpr c6
      have c6b1 : (a0_0 != 48) = true := bne_iff_ne.mpr c6
      (first | rw [c6b0] | (simp only [i64_w, i32_w]; rw [c6b0]) | skip)
      have H' := Aside0.mk H
      clear H
      go_wp2
      go_meet
      case rel => exact ⟨_, ((a0_0 == 49)), (by first | rfl | (simp; done) | (simp [*]; done)), H', ⟨by first | omega | exact Nat.le_refl _⟩, ⟨by (with_reducible repeat (first | refine blk_drewN ?_ _ | refine blk_drew ?_ | refine blk_alloc ?_ _)); exact BK167.out⟩, ⟨by repeat (first | (with_reducible first | exact HB.out | apply below_alloc | apply pw_below_drewN | apply below_drew1 | refine below_set ?_ GE167.out) | exact HB.out)⟩⟩
  case rest =>
    clear HC3
    try clear p2
    try clear c6
    try clear c6b0
    try clear c6b1
    try clear hcz5_0
    try clear hcz5_1
    try clear hfz5_0
    try clear hfz5_1
    obtain ⟨kq, x12_2, rfl, HA, HJ2, BK167, HB⟩ := hcut
    cases kq with
    | zero => exact absurd HA.out (by simp [pomaderef01_value.j0])
    | succ kj2 =>
      have H := HA.out
      clear HA
      simp only [pomaderef01_value.j0] at H
      by_cases c7 : x12_2 = true
      · subst c7
        have H1 : (some a0_0) = some r := by rw [if_pos rfl] at H; exact H
        clear H
        have H := H1
        clear H1
        obtain rfl := Option.some.inj H
        have hcz8_0 : wc.cell? ⟨gb167, 0, none⟩ = some (.int .u8 a0_0) := (blk_cell BK167.out 0).trans rfl
        have hcz8_1 : wc.cell? ⟨gb167, 1, none⟩ = some (.slice A0_1 l0_1.length c0_1) := (blk_cell BK167.out 1).trans rfl
        have hfz8_0 := blk_frozen BK167.out 0
        have hfz8_1 := blk_frozen BK167.out 1
        go_wp2
        go_ret
        exact ⟨by first | rfl | (simp [errW_none, errW_some] <;> rfl) | (simp [*, errW_none, errW_some] <;> rfl), by repeat (first | (with_reducible first | exact HB.out | apply below_alloc | apply pw_below_drewN | apply below_drew1 | refine below_set ?_ GE167.out) | exact HB.out)⟩
      · replace c7 := Bool.eq_false_iff.mpr c7
        subst c7
        have H1 : (if a0_0 = 33 then (if 0 < (l0_1.length : Int) then ((pomaderef01_value.f kj2 ((rd_TNd l0_1 0).f0) ((rd_TNd l0_1 0).f1) a1).bind fun t169 => (if t169 = 63 then (some t169) else (some ((97 - t169) % 256)))) else (none)) else (if a0_0 = 38 then (pomaderef01_value.j1 kj2 a1 (a0_0 == 38) a0_0 l0_1) else (if a0_0 = 124 then (pomaderef01_value.j1 kj2 a1 (a0_0 == 124) a0_0 l0_1) else (pomaderef01_value.j1 kj2 a1 (a0_0 == 61) a0_0 l0_1)))) = some r := by rw [if_neg (show ¬ (false = true) by decide)] at H; exact H
        clear H
        have H := H1
        clear H1
        by_cases c9 : a0_0 = 33
        · rw [if_pos c9] at H
          have c9b0 : (a0_0 == 33) = true := beq_iff_eq.mpr c9
          have c9b1 : (a0_0 != 33) = false := bne_eq_false_iff_eq.mpr c9
          clear c9
          by_cases c10 : 0 < (l0_1.length : Int)
          · rw [if_pos c10] at H
            have c10b0 : decide (0 < (l0_1.length : Int)) = true := decide_eq_true c10
            have c10b1 : decide (0 < l0_1.length) = true := decide_eq_true (by omega)
            clear c10
            replace H := Option.bind_eq_some_iff.mp H
            obtain ⟨t169, A110, H⟩ := H
            replace H : (if t169 = 63 then (some t169) else (some ((97 - t169) % 256))) = some r := H
            have A11 := Aside0.mk A110
            clear A110
            by_cases c12 : t169 = 63
            · rw [if_pos c12] at H
              have c12b0 : (t169 == 63) = true := beq_iff_eq.mpr c12
              have c12b1 : (t169 != 63) = false := bne_eq_false_iff_eq.mpr c12
              clear c12
              obtain rfl := Option.some.inj H
              have hcz13_0 : wc.cell? ⟨gb167, 0, none⟩ = some (.int .u8 a0_0) := (blk_cell BK167.out 0).trans rfl
              have hcz13_1 : wc.cell? ⟨gb167, 1, none⟩ = some (.slice A0_1 l0_1.length c0_1) := (blk_cell BK167.out 1).trans rfl
              have hfz13_0 := blk_frozen BK167.out 0
              have hfz13_1 := blk_frozen BK167.out 1
              have p168 : 0 ≤ (0 : Int) := (by omega)
              have q168 : 0 < (l0_1.length : Int) := of_decide_eq_true (by first | (with_reducible assumption) | assumption)
              obtain ⟨ad168, A168_1, c168_1, e168, hx168_0, hx168_1, hl168_1, hi168_1⟩ := at_TNd HR0_1.out 0 p168 q168
              cases e168
              have qi168 : (0 < l0_1.length) = True := eq_true (by omega)
              (try rw [show ((0 : Int)).toNat = 0 from rfl] at hx168_0)
              (try rw [show 0 * 2 = 0 from rfl] at hx168_0)
              (try rw [Addr.add_zero'] at hx168_0)
              (try rw [show ((0 : Int)).toNat = 0 from rfl] at hx168_1)
              (try rw [show 0 * 2 = 0 from rfl] at hx168_1)
              (try rw [Addr.add_zero'] at hx168_1)
              replace hx168_0 := (HB.out.cell (World.block_lt_of_cell? w _ hx168_0)).trans hx168_0
              replace hx168_1 := (HB.out.cell (World.block_lt_of_cell? w _ hx168_1)).trans hx168_1
              have HR168_1 := Aside0.mk hi168_1
              have HC168_1 := Aside0.mk hl168_1
              clear hi168_1 hl168_1
              replace p168 := eq_true p168
              replace q168 := eq_true q168
              go_wp2_with (first | ((with_reducible refine gate_callee (f := 84) rfl ?_); refine goesL_ (some 24) rfl rfl Tryd.func84 (by kernel_rfl) rfl #[.agg #[.int .u8 ((rd_TNd l0_1 0).f0), .slice A168_1 ((rd_TNd l0_1 0).f1).length c168_1], .string a1] rfl (by (try simp only [List.map_toArray, List.map_cons, List.map_nil]); first | done | rfl | (simp only [List.length_drop, List.length_take]; rfl)) ?_; (with_reducible refine (ih kj2 (by have := HJ2.out; omega) ((rd_TNd l0_1 0).f0) _ _ ((rd_TNd l0_1 0).f1) a1 t169 _ ?side1 ?side2 A11.out).mono ?_); (case side1 => repeat (first | exact (Kd.C_below HR168_1.out HB.out) | (with_reducible refine Kd.C_alloc ?_ _) | (with_reducible refine Kd.C_drewN ?_ _) | (with_reducible refine Kd.C_drew ?_))); (case side2 => exact HC168_1.out); rintro e w14 ⟨rfl, hb⟩; refine ⟨_, rfl, ?_⟩; have n0_ := Aside0.mk (blk_below (g := gb167) (o := .cells #[.int .u8 a0_0, .slice (some ad168) l0_1.length c0_1] 84 (0, 0)) (by (with_reducible repeat (first | refine blk_drewN ?_ _ | refine blk_drew ?_ | refine blk_alloc ?_ _)); exact BK167.out) hb); have n1_ := Aside0.mk (below_step (by repeat (first | (with_reducible first | exact HB.out | apply below_alloc | apply pw_below_drewN | apply below_drew1 | refine below_set ?_ GE167.out) | exact HB.out)) hb); clear BK167; clear HB; have BK167 := n0_; have HB := n1_; clear n0_ n1_; (try clear hb); (try clear hb2); (try clear hk); (try clear hi)))
              go_ret
              exact ⟨by first | rfl | (simp [errW_none, errW_some] <;> rfl) | (simp [*, errW_none, errW_some] <;> rfl), by repeat (first | (with_reducible first | exact HB.out | apply below_alloc | apply pw_below_drewN | apply below_drew1 | refine below_set ?_ GE167.out) | exact HB.out)⟩
            · rw [if_neg c12] at H
              have c12b0 : (t169 == 63) = false := beq_eq_false_iff_ne.mpr c12
              have c12b1 : (t169 != 63) = true := bne_iff_ne.mpr c12
              obtain rfl := Option.some.inj H
              have hcz15_0 : wc.cell? ⟨gb167, 0, none⟩ = some (.int .u8 a0_0) := (blk_cell BK167.out 0).trans rfl
              have hcz15_1 : wc.cell? ⟨gb167, 1, none⟩ = some (.slice A0_1 l0_1.length c0_1) := (blk_cell BK167.out 1).trans rfl
              have hfz15_0 := blk_frozen BK167.out 0
              have hfz15_1 := blk_frozen BK167.out 1
              have p168 : 0 ≤ (0 : Int) := (by omega)
              have q168 : 0 < (l0_1.length : Int) := of_decide_eq_true (by first | (with_reducible assumption) | assumption)
              obtain ⟨ad168, A168_1, c168_1, e168, hx168_0, hx168_1, hl168_1, hi168_1⟩ := at_TNd HR0_1.out 0 p168 q168
              cases e168
              have qi168 : (0 < l0_1.length) = True := eq_true (by omega)
              (try rw [show ((0 : Int)).toNat = 0 from rfl] at hx168_0)
              (try rw [show 0 * 2 = 0 from rfl] at hx168_0)
              (try rw [Addr.add_zero'] at hx168_0)
              (try rw [show ((0 : Int)).toNat = 0 from rfl] at hx168_1)
              (try rw [show 0 * 2 = 0 from rfl] at hx168_1)
              (try rw [Addr.add_zero'] at hx168_1)
              replace hx168_0 := (HB.out.cell (World.block_lt_of_cell? w _ hx168_0)).trans hx168_0
              replace hx168_1 := (HB.out.cell (World.block_lt_of_cell? w _ hx168_1)).trans hx168_1
              have HR168_1 := Aside0.mk hi168_1
              have HC168_1 := Aside0.mk hl168_1
              clear hi168_1 hl168_1
              replace p168 := eq_true p168
              replace q168 := eq_true q168
              go_wp2_with (first | ((with_reducible refine gate_callee (f := 84) rfl ?_); refine goesL_ (some 24) rfl rfl Tryd.func84 (by kernel_rfl) rfl #[.agg #[.int .u8 ((rd_TNd l0_1 0).f0), .slice A168_1 ((rd_TNd l0_1 0).f1).length c168_1], .string a1] rfl (by (try simp only [List.map_toArray, List.map_cons, List.map_nil]); first | done | rfl | (simp only [List.length_drop, List.length_take]; rfl)) ?_; (with_reducible refine (ih kj2 (by have := HJ2.out; omega) ((rd_TNd l0_1 0).f0) _ _ ((rd_TNd l0_1 0).f1) a1 t169 _ ?side1 ?side2 A11.out).mono ?_); (case side1 => repeat (first | exact (Kd.C_below HR168_1.out HB.out) | (with_reducible refine Kd.C_alloc ?_ _) | (with_reducible refine Kd.C_drewN ?_ _) | (with_reducible refine Kd.C_drew ?_))); (case side2 => exact HC168_1.out); rintro e w16 ⟨rfl, hb⟩; refine ⟨_, rfl, ?_⟩; have n0_ := Aside0.mk (blk_below (g := gb167) (o := .cells #[.int .u8 a0_0, .slice (some ad168) l0_1.length c0_1] 84 (0, 0)) (by (with_reducible repeat (first | refine blk_drewN ?_ _ | refine blk_drew ?_ | refine blk_alloc ?_ _)); exact BK167.out) hb); have n1_ := Aside0.mk (below_step (by repeat (first | (with_reducible first | exact HB.out | apply below_alloc | apply pw_below_drewN | apply below_drew1 | refine below_set ?_ GE167.out) | exact HB.out)) hb); clear BK167; clear HB; have BK167 := n0_; have HB := n1_; clear n0_ n1_; (try clear hb); (try clear hb2); (try clear hk); (try clear hi)))
              go_ret
              exact ⟨by first | rfl | (simp [errW_none, errW_some] <;> rfl) | (simp [*, errW_none, errW_some] <;> rfl), by repeat (first | (with_reducible first | exact HB.out | apply below_alloc | apply pw_below_drewN | apply below_drew1 | refine below_set ?_ GE167.out) | exact HB.out)⟩
          · rw [if_neg c10] at H
            exact absurd H (by simp)
        · rw [if_neg c9] at H
          have c9b0 : (a0_0 == 33) = false := beq_eq_false_iff_ne.mpr c9
          have c9b1 : (a0_0 != 33) = true := bne_iff_ne.mpr c9
          have HC17 := Aside0.mk H
          clear H
          go_upto_if 30 with (fail)
          go_cut [30] (fun v30 wc => ∃ (kq : Nat) (x30_16 : Bool), v30 = .bool x30_16 ∧ Aside0 (pomaderef01_value.j1 kq a1 x30_16 a0_0 l0_1 = some r) ∧ Aside0 (kq ≤ kj2) ∧ Aside0 (wc.heap[gb167]? = some (.cells #[.int .u8 a0_0, (.slice A0_1 l0_1.length c0_1)] 84 (0, 0))) ∧ Aside0 (Below w.heap.size w wc))
          case first =>
            have H := HC17.out
            clear HC17
            by_cases c18 : a0_0 = 38
            · rw [if_pos c18] at H
              have c18b0 : (a0_0 == 38) = true := beq_iff_eq.mpr c18
              have c18b1 : (a0_0 != 38) = false := bne_eq_false_iff_eq.mpr c18
              clear c18
              (first | rw [c18b0] | (simp only [i64_w, i32_w]; rw [c18b0]) | skip)
              have H' := Aside0.mk H
              clear H
              go_wp2
              go_meet
              case rel => exact ⟨_, ((a0_0 == 38)), (by first | rfl | (simp; done) | (simp [*]; done)), H', ⟨by have := HJ2.out; first | omega | exact Nat.le_refl _⟩, ⟨by (with_reducible repeat (first | refine blk_drewN ?_ _ | refine blk_drew ?_ | refine blk_alloc ?_ _)); exact BK167.out⟩, ⟨by repeat (first | (with_reducible first | exact HB.out | apply below_alloc | apply pw_below_drewN | apply below_drew1 | refine below_set ?_ GE167.out) | exact HB.out)⟩⟩
            · rw [if_neg c18] at H
              have c18b0 : (a0_0 == 38) = false := beq_eq_false_iff_ne.mpr c18
              have c18b1 : (a0_0 != 38) = true := bne_iff_ne.mpr c18
              (first | rw [c18b0] | (simp only [i64_w, i32_w]; rw [c18b0]) | skip)
              by_cases c19 : a0_0 = 124
              · rw [if_pos c19] at H
                have c19b0 : (a0_0 == 124) = true := beq_iff_eq.mpr c19
                have c19b1 : (a0_0 != 124) = false := bne_eq_false_iff_eq.mpr c19
                clear c19
                have H' := Aside0.mk H
                clear H
                go_wp2
                go_meet
                case rel => exact ⟨_, ((a0_0 == 124)), (by first | rfl | (simp; done) | (simp [*]; done)), H', ⟨by have := HJ2.out; first | omega | exact Nat.le_refl _⟩, ⟨by (with_reducible repeat (first | refine blk_drewN ?_ _ | refine blk_drew ?_ | refine blk_alloc ?_ _)); exact BK167.out⟩, ⟨by repeat (first | (with_reducible first | exact HB.out | apply below_alloc | apply pw_below_drewN | apply below_drew1 | refine below_set ?_ GE167.out) | exact HB.out)⟩⟩
              · rw [if_neg c19] at H
                have c19b0 : (a0_0 == 124) = false := beq_eq_false_iff_ne.mpr c19
                have c19b1 : (a0_0 != 124) = true := bne_iff_ne.mpr c19
                have H' := Aside0.mk H
                clear H
                go_wp2
                go_meet
                case rel => exact ⟨_, ((a0_0 == 61)), (by first | rfl | (simp; done) | (simp [*]; done)), H', ⟨by have := HJ2.out; first | omega | exact Nat.le_refl _⟩, ⟨by (with_reducible repeat (first | refine blk_drewN ?_ _ | refine blk_drew ?_ | refine blk_alloc ?_ _)); exact BK167.out⟩, ⟨by repeat (first | (with_reducible first | exact HB.out | apply below_alloc | apply pw_below_drewN | apply below_drew1 | refine below_set ?_ GE167.out) | exact HB.out)⟩⟩
          case rest =>
            clear HC17
            try clear c1
            try clear p1
            try clear q1
            try clear hx1
            try clear qi1
            try clear p2
            try clear c6
            try clear c6b0
            try clear c6b1
            try clear c7
            try clear c8
            try clear c9
            try clear c9b0
            try clear c9b1
            try clear c10
            try clear c10b0
            try clear c10b1
            try clear c12
            try clear c12b0
            try clear c12b1
            try clear c16
            try clear p16
            try clear q16
            try clear hx16
            try clear qi16
            try clear c18
            try clear c18b0
            try clear c18b1
            try clear c19
            try clear c19b0
            try clear c19b1
            try clear hcz13_0
            try clear hcz13_1
            try clear hcz15_0
            try clear hcz15_1
            try clear hcz5_0
            try clear hcz5_1
            try clear hcz8_0
            try clear hcz8_1
            try clear hfz13_0
            try clear hfz13_1
            try clear hfz15_0
            try clear hfz15_1
            try clear hfz5_0
            try clear hfz5_1
            try clear hfz8_0
            try clear hfz8_1
            try clear hx168_0
            try clear hx168_1
            try clear p168
            try clear p2
            try clear q168
            obtain ⟨kq, x30_16, rfl, HA, HJ16, BK167, HB⟩ := hcut
            cases kq with
            | zero => exact absurd HA.out (by simp [pomaderef01_value.j1])
            | succ kj16 =>
              have H := HA.out
              clear HA
              simp only [pomaderef01_value.j1] at H
              by_cases c20 : x30_16 = true
              · subst c20
                have H1 : (if 0 < (l0_1.length : Int) then ((pomaderef01_value.f kj16 ((rd_TNd l0_1 0).f0) ((rd_TNd l0_1 0).f1) a1).bind fun t171 => (if 1 < (l0_1.length : Int) then ((pomaderef01_value.f kj16 ((rd_TNd l0_1 1).f0) ((rd_TNd l0_1 1).f1) a1).bind fun t173 => (if a0_0 = 124 then (pomaderef01_value.j2 kj16 t171 t173 49 48 a0_0 l0_1) else (pomaderef01_value.j2 kj16 t171 t173 48 49 a0_0 l0_1))) else (none))) else (none)) = some r := by rw [if_pos rfl] at H; exact H
                clear H
                have H := H1
                clear H1
                by_cases c21 : 0 < (l0_1.length : Int)
                · rw [if_pos c21] at H
                  have c21b0 : decide (0 < (l0_1.length : Int)) = true := decide_eq_true c21
                  have c21b1 : decide (0 < l0_1.length) = true := decide_eq_true (by omega)
                  clear c21
                  replace H := Option.bind_eq_some_iff.mp H
                  obtain ⟨t171, A220, H⟩ := H
                  replace H : (if 1 < (l0_1.length : Int) then ((pomaderef01_value.f kj16 ((rd_TNd l0_1 1).f0) ((rd_TNd l0_1 1).f1) a1).bind fun t173 => (if a0_0 = 124 then (pomaderef01_value.j2 kj16 t171 t173 49 48 a0_0 l0_1) else (pomaderef01_value.j2 kj16 t171 t173 48 49 a0_0 l0_1))) else (none)) = some r := H
                  have A22 := Aside0.mk A220
                  clear A220
                  by_cases c23 : 1 < (l0_1.length : Int)
                  · rw [if_pos c23] at H
                    have c23b0 : decide (1 < (l0_1.length : Int)) = true := decide_eq_true c23
                    have c23b1 : decide (1 < l0_1.length) = true := decide_eq_true (by omega)
                    clear c23
                    replace H := Option.bind_eq_some_iff.mp H
                    obtain ⟨t173, A240, H⟩ := H
                    replace H : (if a0_0 = 124 then (pomaderef01_value.j2 kj16 t171 t173 49 48 a0_0 l0_1) else (pomaderef01_value.j2 kj16 t171 t173 48 49 a0_0 l0_1)) = some r := H
                    have A24 := Aside0.mk A240
                    clear A240
                    have HC25 := Aside0.mk H
                    clear H
                    try go_wp2
                    have n0_ := Aside0.mk (blk_drew BK167.out)
                    have n1_ := Aside0.mk (below_drew1 HB.out)
                    clear BK167
                    clear HB
                    have BK167 := n0_
                    have HB := n1_
                    clear n0_ n1_
                    have p170 : 0 ≤ (0 : Int) := (by omega)
                    have q170 : 0 < (l0_1.length : Int) := of_decide_eq_true (by first | (with_reducible assumption) | assumption)
                    obtain ⟨ad170, A170_1, c170_1, e170, hx170_0, hx170_1, hl170_1, hi170_1⟩ := at_TNd HR0_1.out 0 p170 q170
                    have hw170_1 := hx170_1
                    (try rw [show ((0 : Int)).toNat = 0 from rfl] at hw170_1)
                    (try rw [show 0 * 2 = 0 from rfl] at hw170_1)
                    (try rw [Addr.add_zero'] at hw170_1)
                    have hw170_0 := hx170_0
                    (try rw [show ((0 : Int)).toNat = 0 from rfl] at hw170_0)
                    (try rw [show 0 * 2 = 0 from rfl] at hw170_0)
                    (try rw [Addr.add_zero'] at hw170_0)
                    cases e170
                    have qi170 : (0 < l0_1.length) = True := eq_true (by omega)
                    (try rw [show ((0 : Int)).toNat = 0 from rfl] at hx170_0)
                    (try rw [show 0 * 2 = 0 from rfl] at hx170_0)
                    (try rw [Addr.add_zero'] at hx170_0)
                    (try rw [show ((0 : Int)).toNat = 0 from rfl] at hx170_1)
                    (try rw [show 0 * 2 = 0 from rfl] at hx170_1)
                    (try rw [Addr.add_zero'] at hx170_1)
                    replace hx170_0 := (HB.out.cell (World.block_lt_of_cell? w _ hx170_0)).trans hx170_0
                    replace hx170_1 := (HB.out.cell (World.block_lt_of_cell? w _ hx170_1)).trans hx170_1
                    have HR170_1 := Aside0.mk hi170_1
                    have HC170_1 := Aside0.mk hl170_1
                    clear hi170_1 hl170_1
                    replace p170 := eq_true p170
                    replace q170 := eq_true q170
                    have p172 : 0 ≤ (1 : Int) := (by omega)
                    have q172 : 1 < (l0_1.length : Int) := of_decide_eq_true (by first | (with_reducible assumption) | assumption)
                    obtain ⟨ad172, A172_1, c172_1, e172, hx172_0, hx172_1, hl172_1, hi172_1⟩ := at_TNd HR0_1.out 1 p172 q172
                    have hw172_1 := hx172_1
                    (try rw [show ((1 : Int)).toNat = 1 from rfl] at hw172_1)
                    (try rw [show 1 * 2 = 2 from rfl] at hw172_1)
                    (try simp only [Nat.reduceMul, Nat.reduceEqDiff, Go.Addr.add, ↓reduceIte] at hw172_1)
                    have hw172_0 := hx172_0
                    (try rw [show ((1 : Int)).toNat = 1 from rfl] at hw172_0)
                    (try rw [show 1 * 2 = 2 from rfl] at hw172_0)
                    (try simp only [Nat.reduceMul, Nat.reduceEqDiff, Go.Addr.add, ↓reduceIte] at hw172_0)
                    obtain rfl : ad170 = ad172 := (by injection e172)
                    (try simp only [show (1 : Int).toNat = 1 from rfl, Nat.reduceMul, Nat.reduceEqDiff, Go.Addr.add, ↓reduceIte] at hx172_0)
                    (try simp only [show (1 : Int).toNat = 1 from rfl, Nat.reduceMul, Nat.reduceEqDiff, Go.Addr.add, ↓reduceIte] at hx172_1)
                    have qi172 : (1 < l0_1.length) = True := eq_true (by omega)
                    (try rw [show ((1 : Int)).toNat = 1 from rfl] at hx172_0)
                    (try rw [show 1 * 2 = 2 from rfl] at hx172_0)
                    (try rw [show ((1 : Int)).toNat = 1 from rfl] at hx172_1)
                    (try rw [show 1 * 2 = 2 from rfl] at hx172_1)
                    replace hx172_0 := (HB.out.cell (World.block_lt_of_cell? w _ hx172_0)).trans hx172_0
                    replace hx172_1 := (HB.out.cell (World.block_lt_of_cell? w _ hx172_1)).trans hx172_1
                    have HR172_1 := Aside0.mk hi172_1
                    have HC172_1 := Aside0.mk hl172_1
                    clear hi172_1 hl172_1
                    replace p172 := eq_true p172
                    replace q172 := eq_true q172
                    refine start_ (n := 14) (S := fun w' => w'.cell? ⟨gb167, 0, none⟩ = some (.int .u8 a0_0) ∧ w'.cell? ⟨gb167, 1, none⟩ = some (.slice (some ad170) l0_1.length c0_1) ∧ w'.cell? ad170 = some (.int .u8 ((rd_TNd l0_1 0).f0)) ∧ w'.cell? ⟨ad170.block, ad170.off + 1, none⟩ = some (.slice A170_1 ((rd_TNd l0_1 0).f1).length c170_1) ∧ w'.cell? ⟨ad170.block, ad170.off + 2, none⟩ = some (.int .u8 ((rd_TNd l0_1 1).f0)) ∧ w'.cell? ⟨ad170.block, ad170.off + 2 + 1, none⟩ = some (.slice A172_1 ((rd_TNd l0_1 1).f1).length c172_1)) (ds := []) #[false, false, false, false, false, false, false, false, false, false, false, false, false, false] (by kernel_rfl) rfl rfl ⟨(blk_cell BK167.out 0).trans rfl, (blk_cell BK167.out 1).trans rfl, ((HB.out.cell (World.block_lt_of_cell? w _ hw170_0)).trans hw170_0), ((HB.out.cell (World.block_lt_of_cell? w _ hw170_1)).trans hw170_1), ((HB.out.cell (World.block_lt_of_cell? w _ hw172_0)).trans hw172_0), ((HB.out.cell (World.block_lt_of_cell? w _ hw172_1)).trans hw172_1)⟩ (fun hHeld => ?_); refine with_tabW pomaderef01_value.tab13 pomaderef01_value.bits13 (fun HT_ HW_ => ?_)
                    generalize wc.drew = w26 at BK167 HB HR170_1 HR172_1 hx170_0 hx170_1 hx172_0 hx172_1 hHeld ⊢
                    refine pure_ (i := 0) (N := some 34) (v := ?_) (a' := ?_) #[true, false, false, false, false, false, false, false, false, false, false, false, false, false] rfl rfl (any_of HT_.out (by kernel_rfl)) (fun _ _ _ h => h) (Or.inl ⟨by rfl, ?_⟩) ?_ ?_
                    rotate_left
                    · intro w'
                      go_simp
                      with_reducible rfl
                    rotate_left
                    · simp only [Act.put, List.setIfInBounds_toArray, List.set_cons_zero, List.set_cons_succ, i64_w, i32_w]
                      rfl
                    refine pure_ (i := 4) (N := some 38) (v := ?_) (a' := ?_) #[true, false, false, false, true, false, false, false, false, false, false, false, false, false] rfl rfl (any_of HT_.out (by kernel_rfl)) (fun _ _ _ h => h) (Or.inl ⟨by rfl, ?_⟩) ?_ ?_
                    rotate_left
                    · intro w'
                      go_simp
                      with_reducible rfl
                    rotate_left
                    · simp only [Act.put, List.setIfInBounds_toArray, List.set_cons_zero, List.set_cons_succ, i64_w, i32_w]
                      rfl
                    refine pure_ (i := 6) (N := some 40) (v := ?_) (a' := ?_) #[true, false, false, false, true, false, true, false, false, false, false, false, false, false] rfl rfl (any_of HT_.out (by kernel_rfl)) (fun _ _ _ h => h) (Or.inl ⟨by rfl, ?_⟩) ?_ ?_
                    rotate_left
                    · intro w'
                      go_simp
                      with_reducible rfl
                    rotate_left
                    · simp only [Act.put, List.setIfInBounds_toArray, List.set_cons_zero, List.set_cons_succ, i64_w, i32_w]
                      rfl
                    refine pure_ (i := 10) (N := some 44) (v := ?_) (a' := ?_) #[true, false, false, false, true, false, true, false, false, false, true, false, false, false] rfl rfl (any_of HT_.out (by kernel_rfl)) (fun _ _ _ h => h) (Or.inl ⟨by rfl, ?_⟩) ?_ ?_
                    rotate_left
                    · intro w'
                      go_simp
                      with_reducible rfl
                    rotate_left
                    · simp only [Act.put, List.setIfInBounds_toArray, List.set_cons_zero, List.set_cons_succ, i64_w, i32_w]
                      rfl
                    refine take_ (i := 1) (N := some 35) (v := ?_) (a' := ?_) #[true, true, false, false, true, false, true, false, false, false, true, false, false, false] rfl rfl (take_ofW HT_.out HW_.out (by kernel_rfl)) (fun _ _ _ h => h) (Or.inl ⟨by rfl, ?_⟩) hHeld ?_ ?_
                    rotate_left
                    · rintro w' ⟨s0, s1, s2, s3, s4, s5⟩
                      go_simp
                      with_reducible rfl
                    rotate_left
                    · simp only [Act.put, List.setIfInBounds_toArray, List.set_cons_zero, List.set_cons_succ, i64_w, i32_w]
                      rfl
                    refine pure_ (i := 2) (N := some 36) (v := ?_) (a' := ?_) #[true, true, true, false, true, false, true, false, false, false, true, false, false, false] rfl rfl (any_of HT_.out (by kernel_rfl)) (fun _ _ _ h => h) (Or.inl ⟨by rfl, ?_⟩) ?_ ?_
                    rotate_left
                    · intro w'
                      go_simp
                      with_reducible rfl
                    rotate_left
                    · simp only [Act.put, List.setIfInBounds_toArray, List.set_cons_zero, List.set_cons_succ, i64_w, i32_w]
                      rfl
                    refine take_ (i := 3) (N := some 37) (v := ?_) (a' := ?_) #[true, true, true, true, true, false, true, false, false, false, true, false, false, false] rfl rfl (take_ofW HT_.out HW_.out (by kernel_rfl)) (fun _ _ _ h => h) (Or.inl ⟨by rfl, ?_⟩) hHeld ?_ ?_
                    rotate_left
                    · rintro w' ⟨s0, s1, s2, s3, s4, s5⟩
                      go_simp
                      with_reducible rfl
                    rotate_left
                    · simp only [Act.put, List.setIfInBounds_toArray, List.set_cons_zero, List.set_cons_succ, i64_w, i32_w]
                      rfl
                    refine take_ (i := 7) (N := some 41) (v := ?_) (a' := ?_) #[true, true, true, true, true, false, true, true, false, false, true, false, false, false] rfl rfl (take_ofW HT_.out HW_.out (by kernel_rfl)) (fun _ _ _ h => h) (Or.inl ⟨by rfl, ?_⟩) hHeld ?_ ?_
                    rotate_left
                    · rintro w' ⟨s0, s1, s2, s3, s4, s5⟩
                      go_simp
                      with_reducible rfl
                    rotate_left
                    · simp only [Act.put, List.setIfInBounds_toArray, List.set_cons_zero, List.set_cons_succ, i64_w, i32_w]
                      rfl
                    refine pure_ (i := 8) (N := some 42) (v := ?_) (a' := ?_) #[true, true, true, true, true, false, true, true, true, false, true, false, false, false] rfl rfl (any_of HT_.out (by kernel_rfl)) (fun _ _ _ h => h) (Or.inl ⟨by rfl, ?_⟩) ?_ ?_
                    rotate_left
                    · intro w'
                      go_simp
                      with_reducible rfl
                    rotate_left
                    · simp only [Act.put, List.setIfInBounds_toArray, List.set_cons_zero, List.set_cons_succ, i64_w, i32_w]
                      rfl
                    refine take_ (i := 9) (N := some 43) (v := ?_) (a' := ?_) #[true, true, true, true, true, false, true, true, true, true, true, false, false, false] rfl rfl (take_ofW HT_.out HW_.out (by kernel_rfl)) (fun _ _ _ h => h) (Or.inl ⟨by rfl, ?_⟩) hHeld ?_ ?_
                    rotate_left
                    · rintro w' ⟨s0, s1, s2, s3, s4, s5⟩
                      go_simp
                      with_reducible rfl
                    rotate_left
                    · simp only [Act.put, List.setIfInBounds_toArray, List.set_cons_zero, List.set_cons_succ, i64_w, i32_w]
                      rfl
                    refine one_ (i := 5) (N := some 39) #[true, true, true, true, true, true, true, true, true, true, true, false, false, false] rfl rfl (one_of HT_.out (by kernel_rfl)) (by decide) (fun K hK => ?_)
                    refine goes_ Tryd.func84 (by kernel_rfl) rfl #[.agg #[.int .u8 ((rd_TNd l0_1 0).f0), .slice A170_1 ((rd_TNd l0_1 0).f1).length c170_1], .string a1] (by rfl) rfl rfl (by (try simp only [List.map_toArray, List.map_cons, List.map_nil]); first | done | rfl | (simp only [List.length_drop, List.length_take]; rfl)) ?_
                    with_reducible refine (ih kj16 (by have := HJ2.out; have := HJ16.out; omega) ((rd_TNd l0_1 0).f0) _ _ ((rd_TNd l0_1 0).f1) a1 t171 _ ?side1 ?side2 A22.out).mono ?_
                    (case side1 => repeat (first | exact (Kd.C_below HR170_1.out HB.out) | (with_reducible refine Kd.C_alloc ?_ _) | (with_reducible refine Kd.C_drewN ?_ _) | (with_reducible refine Kd.C_drew ?_)))
                    (case side2 => exact HC170_1.out)
                    rintro e w27 ⟨rfl, hb⟩
                    refine ⟨_, rfl, ?_⟩
                    have n0_ := Aside0.mk (blk_below (g := gb167) (o := .cells #[.int .u8 a0_0, .slice (some ad170) l0_1.length c0_1] 84 (0, 0)) (by (with_reducible repeat (first | refine blk_drewN ?_ _ | refine blk_drew ?_ | refine blk_alloc ?_ _)); exact BK167.out) hb)
                    have n1_ := Aside0.mk (below_step (by repeat (first | (with_reducible first | exact HB.out | apply below_alloc | apply pw_below_drewN | apply below_drew1 | refine below_set ?_ GE167.out) | exact HB.out)) hb)
                    clear BK167
                    clear HB
                    have BK167 := n0_
                    have HB := n1_
                    clear n0_ n1_
                    (try clear hb)
                    (try clear hb2)
                    (try clear hk)
                    (try clear hi)
                    refine hK.out _ _ ⟨(blk_cell BK167.out 0).trans rfl, (blk_cell BK167.out 1).trans rfl, ((HB.out.cell (World.block_lt_of_cell? w _ hw170_0)).trans hw170_0), ((HB.out.cell (World.block_lt_of_cell? w _ hw170_1)).trans hw170_1), ((HB.out.cell (World.block_lt_of_cell? w _ hw172_0)).trans hw172_0), ((HB.out.cell (World.block_lt_of_cell? w _ hw172_1)).trans hw172_1)⟩ (fun hHeld => ?_)
                    clear hK K
                    refine norm_ (a' := ?_) ?_ ?_
                    rotate_left
                    · show Act.put _ (some 39) _ = _
                      simp only [Act.put, List.setIfInBounds_toArray, List.set_cons_zero, List.set_cons_succ, i64_w, i32_w]
                      rfl
                    refine one_ (i := 11) (N := some 45) #[true, true, true, true, true, true, true, true, true, true, true, true, false, false] rfl rfl (one_of HT_.out (by kernel_rfl)) (by decide) (fun K hK => ?_)
                    refine goes_ Tryd.func84 (by kernel_rfl) rfl #[.agg #[.int .u8 ((rd_TNd l0_1 1).f0), .slice A172_1 ((rd_TNd l0_1 1).f1).length c172_1], .string a1] (by rfl) rfl rfl (by (try simp only [List.map_toArray, List.map_cons, List.map_nil]); first | done | rfl | (simp only [List.length_drop, List.length_take]; rfl)) ?_
                    with_reducible refine (ih kj16 (by have := HJ2.out; have := HJ16.out; omega) ((rd_TNd l0_1 1).f0) _ _ ((rd_TNd l0_1 1).f1) a1 t173 _ ?side1 ?side2 A24.out).mono ?_
                    (case side1 => repeat (first | exact (Kd.C_below HR172_1.out HB.out) | (with_reducible refine Kd.C_alloc ?_ _) | (with_reducible refine Kd.C_drewN ?_ _) | (with_reducible refine Kd.C_drew ?_)))
                    (case side2 => exact HC172_1.out)
                    rintro e w28 ⟨rfl, hb⟩
                    refine ⟨_, rfl, ?_⟩
                    have n0_ := Aside0.mk (blk_below (g := gb167) (o := .cells #[.int .u8 a0_0, .slice (some ad170) l0_1.length c0_1] 84 (0, 0)) (by (with_reducible repeat (first | refine blk_drewN ?_ _ | refine blk_drew ?_ | refine blk_alloc ?_ _)); exact BK167.out) hb)
                    have n1_ := Aside0.mk (below_step (by repeat (first | (with_reducible first | exact HB.out | apply below_alloc | apply pw_below_drewN | apply below_drew1 | refine below_set ?_ GE167.out) | exact HB.out)) hb)
                    clear BK167
                    clear HB
                    have BK167 := n0_
                    have HB := n1_
                    clear n0_ n1_
                    (try clear hb)
                    (try clear hb2)
                    (try clear hk)
                    (try clear hi)
                    refine hK.out _ _ ⟨(blk_cell BK167.out 0).trans rfl, (blk_cell BK167.out 1).trans rfl, ((HB.out.cell (World.block_lt_of_cell? w _ hw170_0)).trans hw170_0), ((HB.out.cell (World.block_lt_of_cell? w _ hw170_1)).trans hw170_1), ((HB.out.cell (World.block_lt_of_cell? w _ hw172_0)).trans hw172_0), ((HB.out.cell (World.block_lt_of_cell? w _ hw172_1)).trans hw172_1)⟩ (fun hHeld => ?_)
                    clear hK K
                    refine norm_ (a' := ?_) ?_ ?_
                    rotate_left
                    · show Act.put _ (some 45) _ = _
                      simp only [Act.put, List.setIfInBounds_toArray, List.set_cons_zero, List.set_cons_succ, i64_w, i32_w]
                      rfl
                    refine pure_ (i := 12) (N := some 6) (v := ?_) (a' := ?_) #[true, true, true, true, true, true, true, true, true, true, true, true, true, false] rfl rfl (any_of HT_.out (by kernel_rfl)) (fun _ _ _ h => h) (Or.inl ⟨by rfl, ?_⟩) ?_ ?_
                    rotate_left
                    · intro w'
                      go_simp
                      with_reducible rfl
                    rotate_left
                    · simp only [Act.put, List.setIfInBounds_toArray, List.set_cons_zero, List.set_cons_succ, i64_w, i32_w]
                      rfl
                    refine pure_ (i := 13) (N := some 7) (v := ?_) (a' := ?_) #[true, true, true, true, true, true, true, true, true, true, true, true, true, true] rfl rfl (any_of HT_.out (by kernel_rfl)) (fun _ _ _ h => h) (Or.inl ⟨by rfl, ?_⟩) ?_ ?_
                    rotate_left
                    · intro w'
                      go_simp
                      with_reducible rfl
                    rotate_left
                    · simp only [Act.put, List.setIfInBounds_toArray, List.set_cons_zero, List.set_cons_succ, i64_w, i32_w]
                      rfl
                    refine done_ (done_of HT_.out (by kernel_rfl)) ?_
                    have hcz29_0 : w28.cell? ⟨gb167, 0, none⟩ = some (.int .u8 a0_0) := (blk_cell BK167.out 0).trans rfl
                    have hcz29_1 : w28.cell? ⟨gb167, 1, none⟩ = some (.slice (some ad170) l0_1.length c0_1) := (blk_cell BK167.out 1).trans rfl
                    have hfz29_0 := blk_frozen BK167.out 0
                    have hfz29_1 := blk_frozen BK167.out 1
                    go_upto_if 48 with (fail)
                    go_cut [8, 9] (fun v8 v9 wc => ∃ (kq : Nat) (x8_24 : Int) (x9_24 : Int), v8 = .int .u8 x8_24 ∧ v9 = .int .u8 x9_24 ∧ Aside0 (pomaderef01_value.j2 kq t171 t173 x8_24 x9_24 a0_0 l0_1 = some r) ∧ Aside0 (kq ≤ kj16) ∧ Aside0 (wc.heap[gb167]? = some (.cells #[.int .u8 a0_0, (.slice (some ad170) l0_1.length c0_1)] 84 (0, 0))) ∧ Aside0 (Below w.heap.size w wc))
                    case first =>
                      have H := HC25.out
                      clear HC25
                      by_cases c30 : a0_0 = 124
                      · rw [if_pos c30] at H
                        have c30b0 : (a0_0 == 124) = true := beq_iff_eq.mpr c30
                        have c30b1 : (a0_0 != 124) = false := bne_eq_false_iff_eq.mpr c30
                        clear c30
                        (first | rw [c30b0] | (simp only [i64_w, i32_w]; rw [c30b0]) | skip)
                        have H' := Aside0.mk H
                        clear H
                        go_wp2
                        go_meet
                        case rel => exact ⟨_, (49), (48), (by first | rfl | (simp; done) | (simp [*]; done)), (by first | rfl | (simp; done) | (simp [*]; done)), H', ⟨by have := HJ2.out; have := HJ16.out; first | omega | exact Nat.le_refl _⟩, ⟨by (with_reducible repeat (first | refine blk_drewN ?_ _ | refine blk_drew ?_ | refine blk_alloc ?_ _)); exact BK167.out⟩, ⟨by repeat (first | (with_reducible first | exact HB.out | apply below_alloc | apply pw_below_drewN | apply below_drew1 | refine below_set ?_ GE167.out) | exact HB.out)⟩⟩
                      · rw [if_neg c30] at H
                        have c30b0 : (a0_0 == 124) = false := beq_eq_false_iff_ne.mpr c30
                        have c30b1 : (a0_0 != 124) = true := bne_iff_ne.mpr c30
                        (first | rw [c30b0] | (simp only [i64_w, i32_w]; rw [c30b0]) | skip)
                        have H' := Aside0.mk H
                        clear H
                        go_wp2
                        go_meet
                        case rel => exact ⟨_, (48), (49), (by first | rfl | (simp; done) | (simp [*]; done)), (by first | rfl | (simp; done) | (simp [*]; done)), H', ⟨by have := HJ2.out; have := HJ16.out; first | omega | exact Nat.le_refl _⟩, ⟨by (with_reducible repeat (first | refine blk_drewN ?_ _ | refine blk_drew ?_ | refine blk_alloc ?_ _)); exact BK167.out⟩, ⟨by repeat (first | (with_reducible first | exact HB.out | apply below_alloc | apply pw_below_drewN | apply below_drew1 | refine below_set ?_ GE167.out) | exact HB.out)⟩⟩
                    case rest =>
                      clear HC25
                      try clear c1
                      try clear p1
                      try clear q1
                      try clear hx1
                      try clear qi1
                      try clear c2
                      try clear p2
                      try clear c3
                      try clear c6
                      try clear c6b0
                      try clear c6b1
                      try clear c7
                      try clear c8
                      try clear c9
                      try clear c9b0
                      try clear c9b1
                      try clear c10
                      try clear c10b0
                      try clear c10b1
                      try clear c12
                      try clear c12b0
                      try clear c12b1
                      try clear c16
                      try clear p16
                      try clear q16
                      try clear hx16
                      try clear qi16
                      try clear c17
                      try clear p17
                      try clear q17
                      try clear hx17
                      try clear qi17
                      try clear c18
                      try clear c18b0
                      try clear c18b1
                      try clear c19
                      try clear c19b0
                      try clear c19b1
                      try clear c20
                      try clear c21
                      try clear c21b0
                      try clear c21b1
                      try clear c23
                      try clear c23b0
                      try clear c23b1
                      try clear c30
                      try clear c30b0
                      try clear c30b1
                      try clear hcz13_0
                      try clear hcz13_1
                      try clear hcz15_0
                      try clear hcz15_1
                      try clear hcz29_0
                      try clear hcz29_1
                      try clear hcz5_0
                      try clear hcz5_1
                      try clear hcz8_0
                      try clear hcz8_1
                      try clear hfz13_0
                      try clear hfz13_1
                      try clear hfz15_0
                      try clear hfz15_1
                      try clear hfz29_0
                      try clear hfz29_1
                      try clear hfz5_0
                      try clear hfz5_1
                      try clear hfz8_0
                      try clear hfz8_1
                      try clear hx168_0
                      try clear hx168_1
                      try clear hx170_0
                      try clear hx170_1
                      try clear hx172_0
                      try clear hx172_1
                      try clear p1
                      try clear p16
                      try clear p168
                      try clear p170
                      try clear p172
                      try clear p2
                      try clear q1
                      try clear q16
                      try clear q168
                      try clear q170
                      try clear q172
                      obtain ⟨kq, x8_24, x9_24, rfl, rfl, HA, HJ24, BK167, HB⟩ := hcut
                      cases kq with
                      | zero => exact absurd HA.out (by simp [pomaderef01_value.j2])
                      | succ kj24 =>
                        have H := HA.out
                        clear HA
                        simp only [pomaderef01_value.j2] at H
                        have HC31 := Aside0.mk H
                        clear H
                        go_upto_region 18 with (fail)
                        go_cut [49] (fun v49 wc => ∃ (kq : Nat) (x49_30 : Bool), v49 = .bool x49_30 ∧ Aside0 (pomaderef01_value.j3 kq t171 t173 x8_24 x9_24 x49_30 a0_0 l0_1 = some r) ∧ Aside0 (kq ≤ kj24) ∧ Aside0 (wc.heap[gb167]? = some (.cells #[.int .u8 a0_0, (.slice (some ad170) l0_1.length c0_1)] 84 (0, 0))) ∧ Aside0 (Below w.heap.size w wc))
                        case first =>
                          have H := HC31.out
                          clear HC31
                          by_cases c32 : a0_0 = 61
                          · rw [if_pos c32] at H
                            have c32b0 : (a0_0 == 61) = true := beq_iff_eq.mpr c32
                            have c32b1 : (a0_0 != 61) = false := bne_eq_false_iff_eq.mpr c32
                            clear c32
                            (first | rw [c32b0] | (simp only [i64_w, i32_w]; rw [c32b0]) | skip)
                            by_cases c33 : t171 = 63
                            · rw [if_pos c33] at H
                              have c33b0 : (t171 == 63) = true := beq_iff_eq.mpr c33
                              have c33b1 : (t171 != 63) = false := bne_eq_false_iff_eq.mpr c33
                              clear c33
                              have H' := Aside0.mk H
                              clear H
                              have hcz34_0 : wc.cell? ⟨gb167, 0, none⟩ = some (.int .u8 a0_0) := (blk_cell BK167.out 0).trans rfl
                              have hcz34_1 : wc.cell? ⟨gb167, 1, none⟩ = some (.slice (some ad170) l0_1.length c0_1) := (blk_cell BK167.out 1).trans rfl
                              have hfz34_0 := blk_frozen BK167.out 0
                              have hfz34_1 := blk_frozen BK167.out 1
                              go_wp2
                              go_meet
                              case rel => exact ⟨_, (true), (by first | rfl | (simp; done) | (simp [*]; done)), H', ⟨by have := HJ2.out; have := HJ16.out; have := HJ24.out; first | omega | exact Nat.le_refl _⟩, ⟨by (with_reducible repeat (first | refine blk_drewN ?_ _ | refine blk_drew ?_ | refine blk_alloc ?_ _)); exact BK167.out⟩, ⟨by repeat (first | (with_reducible first | exact HB.out | apply below_alloc | apply pw_below_drewN | apply below_drew1 | refine below_set ?_ GE167.out) | exact HB.out)⟩⟩
                            · rw [if_neg c33] at H
                              have c33b0 : (t171 == 63) = false := beq_eq_false_iff_ne.mpr c33
                              have c33b1 : (t171 != 63) = true := bne_iff_ne.mpr c33
                              have H' := Aside0.mk H
                              clear H
                              have hcz35_0 : wc.cell? ⟨gb167, 0, none⟩ = some (.int .u8 a0_0) := (blk_cell BK167.out 0).trans rfl
                              have hcz35_1 : wc.cell? ⟨gb167, 1, none⟩ = some (.slice (some ad170) l0_1.length c0_1) := (blk_cell BK167.out 1).trans rfl
                              have hfz35_0 := blk_frozen BK167.out 0
                              have hfz35_1 := blk_frozen BK167.out 1
                              go_wp2
                              go_meet
                              case rel => exact ⟨_, ((t173 == 63)), (by first | rfl | (simp; done) | (simp [*]; done)), H', ⟨by have := HJ2.out; have := HJ16.out; have := HJ24.out; first | omega | exact Nat.le_refl _⟩, ⟨by (with_reducible repeat (first | refine blk_drewN ?_ _ | refine blk_drew ?_ | refine blk_alloc ?_ _)); exact BK167.out⟩, ⟨by repeat (first | (with_reducible first | exact HB.out | apply below_alloc | apply pw_below_drewN | apply below_drew1 | refine below_set ?_ GE167.out) | exact HB.out)⟩⟩
                          · rw [if_neg c32] at H
                            have c32b0 : (a0_0 == 61) = false := beq_eq_false_iff_ne.mpr c32
                            have c32b1 : (a0_0 != 61) = true := bne_iff_ne.mpr c32
                            (first | rw [c32b0] | (simp only [i64_w, i32_w]; rw [c32b0]) | skip)
                            have H' := Aside0.mk H
                            clear H
                            have hcz36_0 : wc.cell? ⟨gb167, 0, none⟩ = some (.int .u8 a0_0) := (blk_cell BK167.out 0).trans rfl
                            have hcz36_1 : wc.cell? ⟨gb167, 1, none⟩ = some (.slice (some ad170) l0_1.length c0_1) := (blk_cell BK167.out 1).trans rfl
                            have hfz36_0 := blk_frozen BK167.out 0
                            have hfz36_1 := blk_frozen BK167.out 1
                            go_wp2
                            go_meet
                            case rel => exact ⟨_, (false), (by first | rfl | (simp; done) | (simp [*]; done)), H', ⟨by have := HJ2.out; have := HJ16.out; have := HJ24.out; first | omega | exact Nat.le_refl _⟩, ⟨by (with_reducible repeat (first | refine blk_drewN ?_ _ | refine blk_drew ?_ | refine blk_alloc ?_ _)); exact BK167.out⟩, ⟨by repeat (first | (with_reducible first | exact HB.out | apply below_alloc | apply pw_below_drewN | apply below_drew1 | refine below_set ?_ GE167.out) | exact HB.out)⟩⟩
                        case rest =>
                          clear HC31
                          try clear c1
                          try clear p1
                          try clear q1
                          try clear hx1
                          try clear qi1
                          try clear c2
                          try clear p2
                          try clear c3
                          try clear c6
                          try clear c6b0
                          try clear c6b1
                          try clear c7
                          try clear c8
                          try clear c9
                          try clear c9b0
                          try clear c9b1
                          try clear c10
                          try clear c10b0
                          try clear c10b1
                          try clear c12
                          try clear c12b0
                          try clear c12b1
                          try clear c16
                          try clear p16
                          try clear q16
                          try clear hx16
                          try clear qi16
                          try clear c17
                          try clear p17
                          try clear q17
                          try clear hx17
                          try clear qi17
                          try clear c18
                          try clear c18b0
                          try clear c18b1
                          try clear c19
                          try clear c19b0
                          try clear c19b1
                          try clear c20
                          try clear c21
                          try clear c21b0
                          try clear c21b1
                          try clear c23
                          try clear c23b0
                          try clear c23b1
                          try clear c30
                          try clear c30b0
                          try clear c30b1
                          try clear c32
                          try clear c32b0
                          try clear c32b1
                          try clear c33
                          try clear c33b0
                          try clear c33b1
                          try clear hcz13_0
                          try clear hcz13_1
                          try clear hcz15_0
                          try clear hcz15_1
                          try clear hcz29_0
                          try clear hcz29_1
                          try clear hcz34_0
                          try clear hcz34_1
                          try clear hcz35_0
                          try clear hcz35_1
                          try clear hcz36_0
                          try clear hcz36_1
                          try clear hcz5_0
                          try clear hcz5_1
                          try clear hcz8_0
                          try clear hcz8_1
                          try clear hfz13_0
                          try clear hfz13_1
                          try clear hfz15_0
                          try clear hfz15_1
                          try clear hfz29_0
                          try clear hfz29_1
                          try clear hfz34_0
                          try clear hfz34_1
                          try clear hfz35_0
                          try clear hfz35_1
                          try clear hfz36_0
                          try clear hfz36_1
                          try clear hfz5_0
                          try clear hfz5_1
                          try clear hfz8_0
                          try clear hfz8_1
                          try clear hx168_0
                          try clear hx168_1
                          try clear hx170_0
                          try clear hx170_1
                          try clear hx172_0
                          try clear hx172_1
                          try clear p1
                          try clear p16
                          try clear p168
                          try clear p17
                          try clear p170
                          try clear p172
                          try clear p2
                          try clear q1
                          try clear q16
                          try clear q168
                          try clear q17
                          try clear q170
                          try clear q172
                          obtain ⟨kq, x49_30, rfl, HA, HJ30, BK167, HB⟩ := hcut
                          cases kq with
                          | zero => exact absurd HA.out (by simp [pomaderef01_value.j3])
                          | succ kj30 =>
                            have H := HA.out
                            clear HA
                            simp only [pomaderef01_value.j3] at H
                            by_cases c37 : x49_30 = true
                            · subst c37
                              have H1 : (some 63) = some r := by rw [if_pos rfl] at H; exact H
                              clear H
                              have H := H1
                              clear H1
                              obtain rfl := Option.some.inj H
                              go_wp2
                              go_ret
                              exact ⟨by first | rfl | (simp [errW_none, errW_some] <;> rfl) | (simp [*, errW_none, errW_some] <;> rfl), by repeat (first | (with_reducible first | exact HB.out | apply below_alloc | apply pw_below_drewN | apply below_drew1 | refine below_set ?_ GE167.out) | exact HB.out)⟩
                            · replace c37 := Bool.eq_false_iff.mpr c37
                              subst c37
                              have H1 : (if a0_0 = 61 then (pomaderef01_value.j4 kj30 t171 t173 x8_24 x9_24 (t171 == t173) a0_0 l0_1) else (pomaderef01_value.j4 kj30 t171 t173 x8_24 x9_24 false a0_0 l0_1)) = some r := by rw [if_neg (show ¬ (false = true) by decide)] at H; exact H
                              clear H
                              have H := H1
                              clear H1
                              have HC38 := Aside0.mk H
                              clear H
                              go_upto_region 20 with (fail)
                              go_cut [61] (fun v61 wc => ∃ (kq : Nat) (x61_37 : Bool), v61 = .bool x61_37 ∧ Aside0 (pomaderef01_value.j4 kq t171 t173 x8_24 x9_24 x61_37 a0_0 l0_1 = some r) ∧ Aside0 (kq ≤ kj30) ∧ Aside0 (wc.heap[gb167]? = some (.cells #[.int .u8 a0_0, (.slice (some ad170) l0_1.length c0_1)] 84 (0, 0))) ∧ Aside0 (Below w.heap.size w wc))
                              case first =>
                                have H := HC38.out
                                clear HC38
                                by_cases c39 : a0_0 = 61
                                · rw [if_pos c39] at H
                                  have c39b0 : (a0_0 == 61) = true := beq_iff_eq.mpr c39
                                  have c39b1 : (a0_0 != 61) = false := bne_eq_false_iff_eq.mpr c39
                                  clear c39
                                  (first | rw [c39b0] | (simp only [i64_w, i32_w]; rw [c39b0]) | skip)
                                  have H' := Aside0.mk H
                                  clear H
                                  have hcz40_0 : wc.cell? ⟨gb167, 0, none⟩ = some (.int .u8 a0_0) := (blk_cell BK167.out 0).trans rfl
                                  have hcz40_1 : wc.cell? ⟨gb167, 1, none⟩ = some (.slice (some ad170) l0_1.length c0_1) := (blk_cell BK167.out 1).trans rfl
                                  have hfz40_0 := blk_frozen BK167.out 0
                                  have hfz40_1 := blk_frozen BK167.out 1
                                  go_wp2
                                  go_meet
                                  case rel => exact ⟨_, ((t171 == t173)), (by first | rfl | (simp; done) | (simp [*]; done)), H', ⟨by have := HJ2.out; have := HJ16.out; have := HJ24.out; have := HJ30.out; first | omega | exact Nat.le_refl _⟩, ⟨by (with_reducible repeat (first | refine blk_drewN ?_ _ | refine blk_drew ?_ | refine blk_alloc ?_ _)); exact BK167.out⟩, ⟨by repeat (first | (with_reducible first | exact HB.out | apply below_alloc | apply pw_below_drewN | apply below_drew1 | refine below_set ?_ GE167.out) | exact HB.out)⟩⟩
                                · rw [if_neg c39] at H
                                  have c39b0 : (a0_0 == 61) = false := beq_eq_false_iff_ne.mpr c39
                                  have c39b1 : (a0_0 != 61) = true := bne_iff_ne.mpr c39
                                  (first | rw [c39b0] | (simp only [i64_w, i32_w]; rw [c39b0]) | skip)
                                  have H' := Aside0.mk H
                                  clear H
                                  have hcz41_0 : wc.cell? ⟨gb167, 0, none⟩ = some (.int .u8 a0_0) := (blk_cell BK167.out 0).trans rfl
                                  have hcz41_1 : wc.cell? ⟨gb167, 1, none⟩ = some (.slice (some ad170) l0_1.length c0_1) := (blk_cell BK167.out 1).trans rfl
                                  have hfz41_0 := blk_frozen BK167.out 0
                                  have hfz41_1 := blk_frozen BK167.out 1
                                  go_wp2
                                  go_meet
                                  case rel => exact ⟨_, (false), (by first | rfl | (simp; done) | (simp [*]; done)), H', ⟨by have := HJ2.out; have := HJ16.out; have := HJ24.out; have := HJ30.out; first | omega | exact Nat.le_refl _⟩, ⟨by (with_reducible repeat (first | refine blk_drewN ?_ _ | refine blk_drew ?_ | refine blk_alloc ?_ _)); exact BK167.out⟩, ⟨by repeat (first | (with_reducible first | exact HB.out | apply below_alloc | apply pw_below_drewN | apply below_drew1 | refine below_set ?_ GE167.out) | exact HB.out)⟩⟩
                              case rest =>
                                clear HC38
                                try clear c1
                                try clear p1
                                try clear q1
                                try clear hx1
                                try clear qi1
                                try clear c2
                                try clear p2
                                try clear c3
                                try clear c6
                                try clear c6b0
                                try clear c6b1
                                try clear c7
                                try clear c8
                                try clear c9
                                try clear c9b0
                                try clear c9b1
                                try clear c10
                                try clear c10b0
                                try clear c10b1
                                try clear c12
                                try clear c12b0
                                try clear c12b1
                                try clear c16
                                try clear p16
                                try clear q16
                                try clear hx16
                                try clear qi16
                                try clear c17
                                try clear p17
                                try clear q17
                                try clear hx17
                                try clear qi17
                                try clear c18
                                try clear c18b0
                                try clear c18b1
                                try clear c19
                                try clear c19b0
                                try clear c19b1
                                try clear c20
                                try clear c21
                                try clear c21b0
                                try clear c21b1
                                try clear c23
                                try clear c23b0
                                try clear c23b1
                                try clear c30
                                try clear c30b0
                                try clear c30b1
                                try clear c32
                                try clear c32b0
                                try clear c32b1
                                try clear c33
                                try clear c33b0
                                try clear c33b1
                                try clear c37
                                try clear c39
                                try clear c39b0
                                try clear c39b1
                                try clear hcz13_0
                                try clear hcz13_1
                                try clear hcz15_0
                                try clear hcz15_1
                                try clear hcz29_0
                                try clear hcz29_1
                                try clear hcz34_0
                                try clear hcz34_1
                                try clear hcz35_0
                                try clear hcz35_1
                                try clear hcz36_0
                                try clear hcz36_1
                                try clear hcz40_0
                                try clear hcz40_1
                                try clear hcz41_0
                                try clear hcz41_1
                                try clear hcz5_0
                                try clear hcz5_1
                                try clear hcz8_0
                                try clear hcz8_1
                                try clear hfz13_0
                                try clear hfz13_1
                                try clear hfz15_0
                                try clear hfz15_1
                                try clear hfz29_0
                                try clear hfz29_1
                                try clear hfz34_0
                                try clear hfz34_1
                                try clear hfz35_0
                                try clear hfz35_1
                                try clear hfz36_0
                                try clear hfz36_1
                                try clear hfz40_0
                                try clear hfz40_1
                                try clear hfz41_0
                                try clear hfz41_1
                                try clear hfz5_0
                                try clear hfz5_1
                                try clear hfz8_0
                                try clear hfz8_1
                                try clear hx168_0
                                try clear hx168_1
                                try clear hx170_0
                                try clear hx170_1
                                try clear hx172_0
                                try clear hx172_1
                                try clear p1
                                try clear p16
                                try clear p168
                                try clear p17
                                try clear p170
                                try clear p172
                                try clear p2
                                try clear q1
                                try clear q16
                                try clear q168
                                try clear q17
                                try clear q170
                                try clear q172
                                obtain ⟨kq, x61_37, rfl, HA, HJ37, BK167, HB⟩ := hcut
                                cases kq with
                                | zero => exact absurd HA.out (by simp [pomaderef01_value.j4])
                                | succ kj37 =>
                                  have H := HA.out
                                  clear HA
                                  simp only [pomaderef01_value.j4] at H
                                  by_cases c42 : x61_37 = true
                                  · subst c42
                                    have H1 : (some 49) = some r := by rw [if_pos rfl] at H; exact H
                                    clear H
                                    have H := H1
                                    clear H1
                                    obtain rfl := Option.some.inj H
                                    go_wp2
                                    go_ret
                                    exact ⟨by first | rfl | (simp [errW_none, errW_some] <;> rfl) | (simp [*, errW_none, errW_some] <;> rfl), by repeat (first | (with_reducible first | exact HB.out | apply below_alloc | apply pw_below_drewN | apply below_drew1 | refine below_set ?_ GE167.out) | exact HB.out)⟩
                                  · replace c42 := Bool.eq_false_iff.mpr c42
                                    subst c42
                                    have H1 : (if a0_0 = 61 then (some 48) else (if t171 = x8_24 then (pomaderef01_value.j5 kj37 t171 t173 x8_24 x9_24 true) else (pomaderef01_value.j5 kj37 t171 t173 x8_24 x9_24 (t173 == x8_24)))) = some r := by rw [if_neg (show ¬ (false = true) by decide)] at H; exact H
                                    clear H
                                    have H := H1
                                    clear H1
                                    by_cases c43 : a0_0 = 61
                                    · rw [if_pos c43] at H
                                      have c43b0 : (a0_0 == 61) = true := beq_iff_eq.mpr c43
                                      have c43b1 : (a0_0 != 61) = false := bne_eq_false_iff_eq.mpr c43
                                      clear c43
                                      obtain rfl := Option.some.inj H
                                      have hcz44_0 : wc.cell? ⟨gb167, 0, none⟩ = some (.int .u8 a0_0) := (blk_cell BK167.out 0).trans rfl
                                      have hcz44_1 : wc.cell? ⟨gb167, 1, none⟩ = some (.slice (some ad170) l0_1.length c0_1) := (blk_cell BK167.out 1).trans rfl
                                      have hfz44_0 := blk_frozen BK167.out 0
                                      have hfz44_1 := blk_frozen BK167.out 1
                                      go_wp2
                                      go_ret
                                      exact ⟨by first | rfl | (simp [errW_none, errW_some] <;> rfl) | (simp [*, errW_none, errW_some] <;> rfl), by repeat (first | (with_reducible first | exact HB.out | apply below_alloc | apply pw_below_drewN | apply below_drew1 | refine below_set ?_ GE167.out) | exact HB.out)⟩
                                    · rw [if_neg c43] at H
                                      have c43b0 : (a0_0 == 61) = false := beq_eq_false_iff_ne.mpr c43
                                      have c43b1 : (a0_0 != 61) = true := bne_iff_ne.mpr c43
                                      have HC45 := Aside0.mk H
                                      clear H
                                      have hcz46_0 : wc.cell? ⟨gb167, 0, none⟩ = some (.int .u8 a0_0) := (blk_cell BK167.out 0).trans rfl
                                      have hcz46_1 : wc.cell? ⟨gb167, 1, none⟩ = some (.slice (some ad170) l0_1.length c0_1) := (blk_cell BK167.out 1).trans rfl
                                      have hfz46_0 := blk_frozen BK167.out 0
                                      have hfz46_1 := blk_frozen BK167.out 1
                                      go_upto_region 24 with (fail)
                                      go_cut [74] (fun v74 wc => ∃ (kq : Nat) (x74_44 : Bool), v74 = .bool x74_44 ∧ Aside0 (pomaderef01_value.j5 kq t171 t173 x8_24 x9_24 x74_44 = some r) ∧ Aside0 (kq ≤ kj37) ∧ Aside0 (wc.heap[gb167]? = some (.cells #[.int .u8 a0_0, (.slice (some ad170) l0_1.length c0_1)] 84 (0, 0))) ∧ Aside0 (Below w.heap.size w wc))
                                      case first =>
                                        have H := HC45.out
                                        clear HC45
                                        by_cases c47 : t171 = x8_24
                                        · rw [if_pos c47] at H
                                          have c47b0 : (t171 == x8_24) = true := beq_iff_eq.mpr c47
                                          have c47b1 : (t171 != x8_24) = false := bne_eq_false_iff_eq.mpr c47
                                          clear c47
                                          (first | rw [c47b0] | (simp only [i64_w, i32_w]; rw [c47b0]) | skip)
                                          have H' := Aside0.mk H
                                          clear H
                                          go_wp2
                                          go_meet
                                          case rel => exact ⟨_, (true), (by first | rfl | (simp; done) | (simp [*]; done)), H', ⟨by have := HJ2.out; have := HJ16.out; have := HJ24.out; have := HJ30.out; have := HJ37.out; first | omega | exact Nat.le_refl _⟩, ⟨by (with_reducible repeat (first | refine blk_drewN ?_ _ | refine blk_drew ?_ | refine blk_alloc ?_ _)); exact BK167.out⟩, ⟨by repeat (first | (with_reducible first | exact HB.out | apply below_alloc | apply pw_below_drewN | apply below_drew1 | refine below_set ?_ GE167.out) | exact HB.out)⟩⟩
                                        · rw [if_neg c47] at H
                                          have c47b0 : (t171 == x8_24) = false := beq_eq_false_iff_ne.mpr c47
                                          have c47b1 : (t171 != x8_24) = true := bne_iff_ne.mpr c47
                                          (first | rw [c47b0] | (simp only [i64_w, i32_w]; rw [c47b0]) | skip)
                                          have H' := Aside0.mk H
                                          clear H
                                          go_wp2
                                          go_meet
                                          case rel => exact ⟨_, ((t173 == x8_24)), (by first | rfl | (simp; done) | (simp [*]; done)), H', ⟨by have := HJ2.out; have := HJ16.out; have := HJ24.out; have := HJ30.out; have := HJ37.out; first | omega | exact Nat.le_refl _⟩, ⟨by (with_reducible repeat (first | refine blk_drewN ?_ _ | refine blk_drew ?_ | refine blk_alloc ?_ _)); exact BK167.out⟩, ⟨by repeat (first | (with_reducible first | exact HB.out | apply below_alloc | apply pw_below_drewN | apply below_drew1 | refine below_set ?_ GE167.out) | exact HB.out)⟩⟩
                                      case rest =>
                                        clear HC45
                                        try clear c1
                                        try clear p1
                                        try clear q1
                                        try clear hx1
                                        try clear qi1
                                        try clear c2
                                        try clear p2
                                        try clear c3
                                        try clear c4
                                        try clear c6
                                        try clear c6b0
                                        try clear c6b1
                                        try clear c7
                                        try clear c8
                                        try clear c9
                                        try clear c9b0
                                        try clear c9b1
                                        try clear c10
                                        try clear c10b0
                                        try clear c10b1
                                        try clear c12
                                        try clear c12b0
                                        try clear c12b1
                                        try clear c16
                                        try clear p16
                                        try clear q16
                                        try clear hx16
                                        try clear qi16
                                        try clear c17
                                        try clear p17
                                        try clear q17
                                        try clear hx17
                                        try clear qi17
                                        try clear c18
                                        try clear c18b0
                                        try clear c18b1
                                        try clear c19
                                        try clear c19b0
                                        try clear c19b1
                                        try clear c20
                                        try clear c21
                                        try clear c21b0
                                        try clear c21b1
                                        try clear c23
                                        try clear c23b0
                                        try clear c23b1
                                        try clear c30
                                        try clear c30b0
                                        try clear c30b1
                                        try clear c32
                                        try clear c32b0
                                        try clear c32b1
                                        try clear c33
                                        try clear c33b0
                                        try clear c33b1
                                        try clear c37
                                        try clear c39
                                        try clear c39b0
                                        try clear c39b1
                                        try clear c42
                                        try clear c43
                                        try clear c43b0
                                        try clear c43b1
                                        try clear c47
                                        try clear c47b0
                                        try clear c47b1
                                        try clear hcz13_0
                                        try clear hcz13_1
                                        try clear hcz15_0
                                        try clear hcz15_1
                                        try clear hcz29_0
                                        try clear hcz29_1
                                        try clear hcz34_0
                                        try clear hcz34_1
                                        try clear hcz35_0
                                        try clear hcz35_1
                                        try clear hcz36_0
                                        try clear hcz36_1
                                        try clear hcz40_0
                                        try clear hcz40_1
                                        try clear hcz41_0
                                        try clear hcz41_1
                                        try clear hcz44_0
                                        try clear hcz44_1
                                        try clear hcz46_0
                                        try clear hcz46_1
                                        try clear hcz5_0
                                        try clear hcz5_1
                                        try clear hcz8_0
                                        try clear hcz8_1
                                        try clear hfz13_0
                                        try clear hfz13_1
                                        try clear hfz15_0
                                        try clear hfz15_1
                                        try clear hfz29_0
                                        try clear hfz29_1
                                        try clear hfz34_0
                                        try clear hfz34_1
                                        try clear hfz35_0
                                        try clear hfz35_1
                                        try clear hfz36_0
                                        try clear hfz36_1
                                        try clear hfz40_0
                                        try clear hfz40_1
                                        try clear hfz41_0
                                        try clear hfz41_1
                                        try clear hfz44_0
                                        try clear hfz44_1
                                        try clear hfz46_0
                                        try clear hfz46_1
                                        try clear hfz5_0
                                        try clear hfz5_1
                                        try clear hfz8_0
                                        try clear hfz8_1
                                        try clear hx168_0
                                        try clear hx168_1
                                        try clear hx170_0
                                        try clear hx170_1
                                        try clear hx172_0
                                        try clear hx172_1
                                        try clear p1
                                        try clear p16
                                        try clear p168
                                        try clear p17
                                        try clear p170
                                        try clear p172
                                        try clear p2
                                        try clear q1
                                        try clear q16
                                        try clear q168
                                        try clear q17
                                        try clear q170
                                        try clear q172
                                        obtain ⟨kq, x74_44, rfl, HA, HJ44, BK167, HB⟩ := hcut
                                        cases kq with
                                        | zero => exact absurd HA.out (by simp [pomaderef01_value.j5])
                                        | succ kj44 =>
                                          have H := HA.out
                                          clear HA
                                          simp only [pomaderef01_value.j5] at H
                                          by_cases c48 : x74_44 = true
                                          · subst c48
                                            have H1 : (some x8_24) = some r := by rw [if_pos rfl] at H; exact H
                                            clear H
                                            have H := H1
                                            clear H1
                                            obtain rfl := Option.some.inj H
                                            go_wp2
                                            go_ret
                                            exact ⟨by first | rfl | (simp [errW_none, errW_some] <;> rfl) | (simp [*, errW_none, errW_some] <;> rfl), by repeat (first | (with_reducible first | exact HB.out | apply below_alloc | apply pw_below_drewN | apply below_drew1 | refine below_set ?_ GE167.out) | exact HB.out)⟩
                                          · replace c48 := Bool.eq_false_iff.mpr c48
                                            subst c48
                                            have H1 : (if t171 = x9_24 then (if t173 = x9_24 then (some x9_24) else (some 63)) else (some 63)) = some r := by rw [if_neg (show ¬ (false = true) by decide)] at H; exact H
                                            clear H
                                            have H := H1
                                            clear H1
                                            by_cases c49 : t171 = x9_24
                                            · rw [if_pos c49] at H
                                              have c49b0 : (t171 == x9_24) = true := beq_iff_eq.mpr c49
                                              have c49b1 : (t171 != x9_24) = false := bne_eq_false_iff_eq.mpr c49
                                              clear c49
                                              by_cases c50 : t173 = x9_24
                                              · rw [if_pos c50] at H
                                                have c50b0 : (t173 == x9_24) = true := beq_iff_eq.mpr c50
                                                have c50b1 : (t173 != x9_24) = false := bne_eq_false_iff_eq.mpr c50
                                                clear c50
                                                obtain rfl := Option.some.inj H
                                                go_wp2
                                                go_ret
                                                exact ⟨by first | rfl | (simp [errW_none, errW_some] <;> rfl) | (simp [*, errW_none, errW_some] <;> rfl), by repeat (first | (with_reducible first | exact HB.out | apply below_alloc | apply pw_below_drewN | apply below_drew1 | refine below_set ?_ GE167.out) | exact HB.out)⟩
                                              · rw [if_neg c50] at H
                                                have c50b0 : (t173 == x9_24) = false := beq_eq_false_iff_ne.mpr c50
                                                have c50b1 : (t173 != x9_24) = true := bne_iff_ne.mpr c50
                                                obtain rfl := Option.some.inj H
                                                go_wp2
                                                go_ret
                                                exact ⟨by first | rfl | (simp [errW_none, errW_some] <;> rfl) | (simp [*, errW_none, errW_some] <;> rfl), by repeat (first | (with_reducible first | exact HB.out | apply below_alloc | apply pw_below_drewN | apply below_drew1 | refine below_set ?_ GE167.out) | exact HB.out)⟩
                                            · rw [if_neg c49] at H
                                              have c49b0 : (t171 == x9_24) = false := beq_eq_false_iff_ne.mpr c49
                                              have c49b1 : (t171 != x9_24) = true := bne_iff_ne.mpr c49
                                              obtain rfl := Option.some.inj H
                                              go_wp2
                                              go_ret
                                              exact ⟨by first | rfl | (simp [errW_none, errW_some] <;> rfl) | (simp [*, errW_none, errW_some] <;> rfl), by repeat (first | (with_reducible first | exact HB.out | apply below_alloc | apply pw_below_drewN | apply below_drew1 | refine below_set ?_ GE167.out) | exact HB.out)⟩
                  · rw [if_neg c23] at H
                    exact absurd H (by simp)
                · rw [if_neg c21] at H
                  exact absurd H (by simp)
              · replace c20 := Bool.eq_false_iff.mpr c20
                subst c20
                have H1 : (if 0 ≤ ((a0_0 - 97) % 256) then (if ((a0_0 - 97) % 256) < (a1.size : Int) then (some (bt a1 ((a0_0 - 97) % 256))) else (none)) else (none)) = some r := by rw [if_neg (show ¬ (false = true) by decide)] at H; exact H
                clear H
                have H := H1
                clear H1
                obtain ⟨ji51, hji51⟩ : ∃ j_ : Int, ((a0_0 - 97) % 256) = j_ := ⟨_, rfl⟩
                replace H : (if 0 ≤ (ji51) then (if (ji51) < (a1.size : Int) then (some (bt a1 (ji51))) else (none)) else (none)) = some r := by first | (rw [hji51] at H; exact H) | (simp only [hji51] at H ⊢; exact H)
                by_cases c52 : 0 ≤ (ji51)
                · rw [if_pos c52] at H
                  have c52b0 : decide (0 ≤ (ji51)) = true := decide_eq_true c52
                  clear c52
                  by_cases c53 : (ji51) < (a1.size : Int)
                  · rw [if_pos c53] at H
                    have c53b0 : decide ((ji51) < (a1.size : Int)) = true := decide_eq_true c53
                    clear c53
                    obtain rfl := Option.some.inj H
                    have hcz55_0 : wc.cell? ⟨gb167, 0, none⟩ = some (.int .u8 a0_0) := (blk_cell BK167.out 0).trans rfl
                    have hcz55_1 : wc.cell? ⟨gb167, 1, none⟩ = some (.slice A0_1 l0_1.length c0_1) := (blk_cell BK167.out 1).trans rfl
                    have hfz55_0 := blk_frozen BK167.out 0
                    have hfz55_1 := blk_frozen BK167.out 1
                    have p54 : 0 ≤ ((ji51) : Int) := of_decide_eq_true (by first | (with_reducible assumption) | assumption)
                    have q54 : (ji51) < (a1.size : Int) := of_decide_eq_true (by first | (with_reducible assumption) | assumption)
                    have hx54 := bt_at a1 (ji51)
                    replace p54 := eq_true p54
                    replace q54 := eq_true q54
                    go_wp2
                    go_ret
                    exact ⟨by first | rfl | (simp [errW_none, errW_some] <;> rfl) | (simp only [← hji51]; first | rfl | (simp [errW_none, errW_some] <;> rfl)) | (simp [*, errW_none, errW_some] <;> rfl), by repeat (first | (with_reducible first | exact HB.out | apply below_alloc | apply pw_below_drewN | apply below_drew1 | refine below_set ?_ GE167.out) | exact HB.out)⟩
                  · rw [if_neg c53] at H
                    exact absurd H (by simp)
                · rw [if_neg c52] at H
                  exact absurd H (by simp)
end Go.Proofs.YtijaefmaceolbaaDoor.Im

namespace Go.Proofs.YtijaefmaceolbaaDoor.Im
open Go.RowKit Go.Proofs.YtijaefmaceolbaaDoorW.PrintWords Go.Proofs.YtijaefmaceolbaaDoorW.PrintLast Go.Proofs.YtijaefmaceolbaaDoorW.PrintMore
attribute [local go_sem] max2_int min2_int max_two min_two max_three min_three max_four min_four
set_option linter.unusedVariables false
set_option linter.unusedSimpArgs false
def pomaderef01_values.l0 : Nat → List (SNd) → ByteArray → List Int → Int → Option (ByteArray)
  | 0, _, _, _, _ => none
  | k + 1, x0, x1, x5, x6 => if x6 < (x0.length : Int) then (if 0 ≤ x6 then ((pomaderef01_value.f k ((rd_TNd x0 x6).f0) ((rd_TNd x0 x6).f1) x1).bind fun t173 => (if x6 < (x5.length : Int) then (pomaderef01_values.l0 k x0 x1 (x5.set (x6 : Int).toNat t173) (wrap64 (x6 + 1))) else (none))) else (none)) else (some (strOfNums x5))
def pomaderef01_values.f (k : Nat) (l0 : List (SNd)) (a1 : ByteArray) : Option (ByteArray) := if 0 ≤ (l0.length : Int) then (if ((l0.length : Int) : Int).toNat ≤ 281474976710656 then (pomaderef01_values.l0 k l0 a1 (List.replicate ((l0.length : Int) : Int).toNat 0) 0) else (none)) else (none)
theorem pomaderef01_values.mono_l : ∀ k, (∀ y0 y1 y2 y3, LeO (pomaderef01_values.l0 k y0 y1 y2 y3) (pomaderef01_values.l0 (k + 1) y0 y1 y2 y3))
  | 0 => fun _ _ _ _ r h => by simp [pomaderef01_values.l0] at h
  | k + 1 => by
    have ih0 := pomaderef01_values.mono_l k
    · intro y0 y1 y2 y3
      unfold pomaderef01_values.l0
      repeat' first
      | (with_reducible exact ih0 _ _ _ _)
      | (with_reducible exact pomaderef01_value.mono _ _ _ _)
      | (with_reducible exact LeO.refl _)
      | (with_reducible exact LeO.none _)
      | (with_reducible refine LeO.ite ?_ ?_)
      | (with_reducible refine LeO.bind ?_ (fun _ => ?_))
      | exact ih0 _ _ _ _
      | exact pomaderef01_value.mono _ _ _ _
      | exact LeO.none _
      | refine LeO.ite ?_ ?_
      | refine LeO.bind ?_ (fun _ => ?_)
theorem pomaderef01_values.mono : ∀ a0 a1 k, LeO (pomaderef01_values.f k a0 a1) (pomaderef01_values.f (k + 1) a0 a1) := by
  intro a0 a1 k
  have ih0 := pomaderef01_values.mono_l k
  unfold pomaderef01_values.f
  repeat' first
      | (with_reducible exact ih0 _ _ _ _)
      | (with_reducible exact pomaderef01_value.mono _ _ _ _)
      | (with_reducible exact LeO.refl _)
      | (with_reducible exact LeO.none _)
      | (with_reducible refine LeO.ite ?_ ?_)
      | (with_reducible refine LeO.bind ?_ (fun _ => ?_))
      | exact ih0 _ _ _ _
      | exact pomaderef01_value.mono _ _ _ _
      | exact LeO.none _
      | refine LeO.ite ?_ ?_
      | refine LeO.bind ?_ (fun _ => ?_)
set_option maxHeartbeats 8000000 in
set_option maxRecDepth 100000 in
theorem pomaderef01_values.calls (k : Nat) (A0 : Option Addr) (c0 : Nat) (l0 : List (SNd)) (a1 : ByteArray) (r : ByteArray) (w : World) (hr0 : Kd.C kNd w A0 l0.length l0) (hc0 : l0.length ≤ c0) (h : pomaderef01_values.f k l0 a1 = some r) :
    Calls Tryd.prog 63 #[.slice A0 l0.length c0, .string a1] w fun e w' => e = .returned (.string r) ∧ Below w.heap.size w w' := by
  have hu84 := Tryd.underlying84
  have HR0 := Aside0.mk hr0
  have HC0 := Aside0.mk hc0
  clear hr0 hc0
  have HB := Aside0.mk (Below.refl w.heap.size w)
  have H : (if 0 ≤ (l0.length : Int) then (if ((l0.length : Int) : Int).toNat ≤ 281474976710656 then (pomaderef01_values.l0 k l0 a1 (List.replicate ((l0.length : Int) : Int).toNat 0) 0) else (none)) else (none)) = some r := h
  clear h
  by_cases c3 : 0 ≤ (l0.length : Int)
  · rw [if_pos c3] at H
    have c3b0 := eq_true c3
    have c3b1 : decide (0 ≤ (l0.length : Int)) = true := decide_eq_true c3
    clear c3
    by_cases c4 : ((l0.length : Int) : Int).toNat ≤ 281474976710656
    · rw [if_pos c4] at H
      have c4b0 := eq_true c4
      have c4b1 : decide (((l0.length : Int) : Int).toNat ≤ 281474976710656) = true := decide_eq_true c4
      clear c4
      obtain ⟨y169, hy169⟩ : ∃ y_ : List Int, y_ = (List.replicate ((l0.length : Int) : Int).toNat 0) := ⟨_, rfl⟩
      replace H : (pomaderef01_values.l0 k l0 a1 y169 0) = some r := by first | (rw [hy169]; with_reducible exact H) | (have H2_ := (Option.bind_some _ _).symm.trans H; rw [hy169]; with_reducible exact H2_) | (have H2_ := (Option.bind_some _ _).symm.trans H; with_reducible exact H2_) | with_reducible exact H | (rw [hy169]; exact H) | exact H
      have Ny169 := Aside0.mk hy169
      clear hy169
      have H' := Aside0.mk H
      clear H
      go_enter Tryd.func63, Tryd.ntmps63
      go_wp2_with (first | ((with_reducible refine gate_dst (N := 9) rfl ?_); refine Kd.R_make (Kd.int .u8) _ 5 rfl (N := 9) rfl 49 _ _ rfl (l0.length : Int) rfl rfl Tryd.underlying49 (.int .u8 0) 1 info5 rfl (by decide) (by omega) 0 (ok := fun _ => True) (okp := fun _ => True) rfl (fun _ hk => hk) trivial (of_decide_eq_true (by first | (with_reducible assumption) | assumption)) (Nat.le_trans (Nat.mul_le_mul_right _ (of_decide_eq_true (by first | (with_reducible assumption) | assumption) : (l0.length : Int).toNat ≤ 281474976710656)) (by omega)) (Below.refl _ _) (Nat.le_refl _) ?_; intro v170 w5 ho6 hb hg_ hnew_; clear hg_ hnew_; (first | rw [← Ny169.out] at ho6 | (simp only [Int.reduceToNat] at ho6; rw [← Ny169.out] at ho6)); have n0_ := Aside0.mk (Kd.R_lower ho6 (below_size (by repeat (first | (with_reducible first | exact HB.out | apply below_alloc | apply pw_below_drewN | apply below_drew1) | exact HB.out)))); have n1_ := Aside0.mk (below_step (by repeat (first | (with_reducible first | exact HB.out | apply below_alloc | apply pw_below_drewN | apply below_drew1) | exact HB.out)) hb); clear HB; have HO171 := n0_; have HB := n1_; clear n0_ n1_; clear hb ho6))
      go_loopg [6] k (fun kq v6 w' => ∃ (x5_1 : List Int) (x6_1 : Int), v6 = .int .i64 x6_1 ∧ Aside0 (pomaderef01_values.l0 kq l0 a1 x5_1 x6_1 = some r) ∧ Aside0 (kq ≤ k) ∧ Aside0 (Kd.R (Kd.int .u8) 5 w' w.heap.size (fun _ => True) v170 x5_1) ∧ Aside0 (Below w.heap.size w w'))
      case atStart => exact ⟨(y169), (0), (by first | rfl | (simp; done) | (simp [*]; done)), H', ⟨Nat.le_refl _⟩, ⟨by (with_reducible repeat (first | apply Kd.R_alloc | apply Kd.R_drewN | apply Kd.R_drew)); exact HO171.out⟩, ⟨by repeat (first | (with_reducible first | exact HB.out | apply below_alloc | apply pw_below_drewN | apply below_drew1) | exact HB.out)⟩⟩
      case round =>
        clear H'
        try clear p2
        try clear c3
        try clear c3b0
        try clear c3b1
        try clear c4
        try clear c4b0
        try clear c4b1
        try clear c6
        obtain ⟨x5_1, x6_1, rfl, HA, HK1, HO_5, HB⟩ := hrel
        cases gk with
        | zero => exact absurd HA.out (by simp [pomaderef01_values.l0])
        | succ k1 =>
          have H := HA.out
          clear HA
          simp only [pomaderef01_values.l0] at H
          by_cases c7 : x6_1 < (l0.length : Int)
          · rw [if_pos c7] at H
            have c7b0 : decide (x6_1 < (l0.length : Int)) = true := decide_eq_true c7
            clear c7
            by_cases c8 : 0 ≤ x6_1
            · rw [if_pos c8] at H
              have c8b0 : decide (0 ≤ x6_1) = true := decide_eq_true c8
              clear c8
              replace H := Option.bind_eq_some_iff.mp H
              obtain ⟨t173, A90, H⟩ := H
              replace H : (if x6_1 < (x5_1.length : Int) then (pomaderef01_values.l0 k1 l0 a1 (x5_1.set (x6_1 : Int).toNat t173) (wrap64 (x6_1 + 1))) else (none)) = some r := H
              have A9 := Aside0.mk A90
              clear A90
              by_cases c10 : x6_1 < (x5_1.length : Int)
              · rw [if_pos c10] at H
                have c10b0 : decide (x6_1 < (x5_1.length : Int)) = true := decide_eq_true c10
                clear c10
                obtain ⟨y174, hy174⟩ : ∃ y_ : List Int, y_ = (x5_1.set (x6_1 : Int).toNat t173) := ⟨_, rfl⟩
                replace H : (pomaderef01_values.l0 k1 l0 a1 y174 (wrap64 (x6_1 + 1))) = some r := by first | (rw [hy174]; with_reducible exact H) | (have H2_ := (Option.bind_some _ _).symm.trans H; rw [hy174]; with_reducible exact H2_) | (have H2_ := (Option.bind_some _ _).symm.trans H; with_reducible exact H2_) | with_reducible exact H | (rw [hy174]; exact H) | exact H
                have Ny174 := Aside0.mk hy174
                clear hy174
                have H' := Aside0.mk H
                clear H
                have p172 : 0 ≤ (x6_1 : Int) := of_decide_eq_true (by first | (with_reducible assumption) | assumption)
                have q172 : x6_1 < (l0.length : Int) := of_decide_eq_true (by first | (with_reducible assumption) | assumption)
                obtain ⟨ad172, A172_1, c172_1, e172, hx172_0, hx172_1, hl172_1, hi172_1⟩ := at_TNd HR0.out x6_1 p172 q172
                cases e172
                replace hx172_0 := (HB.out.cell (World.block_lt_of_cell? w _ hx172_0)).trans hx172_0
                replace hx172_1 := (HB.out.cell (World.block_lt_of_cell? w _ hx172_1)).trans hx172_1
                have HR172_1 := Aside0.mk hi172_1
                have HC172_1 := Aside0.mk hl172_1
                clear hi172_1 hl172_1
                replace p172 := eq_true p172
                replace q172 := eq_true q172
                go_wp2_with (first | ((with_reducible refine gate_callee (f := 84) rfl ?_); refine goesL_ (some 23) rfl rfl Tryd.func84 (by kernel_rfl) rfl #[.agg #[.int .u8 ((rd_TNd l0 x6_1).f0), .slice A172_1 ((rd_TNd l0 x6_1).f1).length c172_1], .string a1] rfl (by (try simp only [List.map_toArray, List.map_cons, List.map_nil]); first | done | rfl | (simp only [List.length_drop, List.length_take]; rfl)) ?_; (with_reducible refine (pomaderef01_value.calls k1 ((rd_TNd l0 x6_1).f0) _ _ ((rd_TNd l0 x6_1).f1) a1 t173 _ ?side1 ?side2 A9.out).mono ?_); (case side1 => repeat (first | exact (Kd.C_below HR172_1.out HB.out) | (with_reducible refine Kd.C_alloc ?_ _) | (with_reducible refine Kd.C_drewN ?_ _) | (with_reducible refine Kd.C_drew ?_))); (case side2 => exact HC172_1.out); rintro e w12 ⟨rfl, hb⟩; refine ⟨_, rfl, ?_⟩; have n0_ := Aside0.mk (Kd.R_below (by (with_reducible repeat (first | apply Kd.R_alloc | apply Kd.R_drewN | apply Kd.R_drew)); exact HO_5.out) hb); have n1_ := Aside0.mk (below_step (by repeat (first | (with_reducible first | exact HB.out | apply below_alloc | apply pw_below_drewN | apply below_drew1) | exact HB.out)) hb); clear HO_5; clear HB; have HO_5 := n0_; have HB := n1_; clear n0_ n1_; (try clear hb); (try clear hb2); (try clear hk); (try clear hi); have p11 : 0 ≤ (x6_1 : Int) := of_decide_eq_true (by first | (with_reducible assumption) | assumption); have q11 : (x6_1 : Int) < ((x5_1.length : Int) : Int) := of_decide_eq_true (by first | (with_reducible assumption) | assumption); obtain ⟨go11, co11, eo11, gb11, gl11, cl11, HG11⟩ := Kd.R_form HO_5.out (by omega); (first | cases eo11 | (injection eo11 with ea_ en_ ec_; (first | subst ea_ | (injection ea_ with ea_; subst ea_)); subst ec_; clear en_)); have GB11 := Aside0.mk gb11; have GG11 := Aside0.mk HG11; clear gb11 gl11 HG11; obtain ⟨hx11_0, hf11_0⟩ := Kd.R_celln 0 HO_5.out (x6_1 : Int) p11 q11; replace p11 := eq_true p11; replace q11 := eq_true q11; obtain ⟨hy13_, hz13_⟩ := Kd.R_celln 0 HO_5.out (x6_1 : Int) (of_decide_eq_true (by first | (with_reducible assumption) | assumption)) (of_decide_eq_true (by first | (with_reducible assumption) | assumption)); have HP13 := Kd.R_putg HO_5.out (x6_1 : Int) t173) | ((with_reducible refine gate_store (t := 5) (p := 24) rfl ?_); refine store_event (t := 5) (p := 24) (v := ?vo_w14) (w1 := (w12.setCell ⟨go11, (x6_1 : Int).toNat, none⟩ (.int .u8 t173))) ?hg ?ho ?hn ?hr ?_; (case ho => rfl); (case hg => rfl); (case hn => rfl); (case hr => first | (go_simp; done) | (go_simp; rfl)); intro w14 hw; have hg : w12.grownBy w14 (some go11) := (by rw [hw]; exact HP13.2); have hp_ : Kd.R (Kd.int .u8) 5 w14 w.heap.size (fun _ => True) (.slice (some ⟨go11, 0, none⟩) x5_1.length co11) y174 := (by rw [hw, Ny174.out]; exact HP13.1); clear HP13; have n0_ := Aside0.mk (hp_); have n1_ := Aside0.mk ((by rw [hw]; exact below_set (HB.out) GB11.out : Below w.heap.size w w14)); clear HO_5; clear HB; have HO_5 := n0_; have HB := n1_; clear n0_ n1_; clear hg hw hp_))
                go_roundg k1
                case measure => have := HK1.out; omega
                case rel => exact ⟨(y174), (wrap64 (x6_1 + 1)), (by first | rfl | (simp; done) | (simp [*]; done)), H', ⟨by have := HK1.out; omega⟩, ⟨by (with_reducible repeat (first | apply Kd.R_alloc | apply Kd.R_drewN | apply Kd.R_drew)); exact HO_5.out⟩, ⟨by repeat (first | (with_reducible first | exact HB.out | apply below_alloc | apply pw_below_drewN | apply below_drew1) | exact HB.out)⟩⟩
              · rw [if_neg c10] at H
                exact absurd H (by simp)
            · rw [if_neg c8] at H
              exact absurd H (by simp)
          · rw [if_neg c7] at H
            have c7b0 : decide (x6_1 < (l0.length : Int)) = false := decide_eq_false c7
            clear c7
            obtain rfl := Option.some.inj H
            have hcv15 := own_string (P := Tryd.prog) Tryd.underlying49 Tryd.underlying5 Tryd.underlying9 (Kd.own_of_R HO_5.out)
            go_wp2
            go_ret
            exact ⟨by first | rfl | (simp [errW_none, errW_some] <;> rfl) | (simp [*, errW_none, errW_some] <;> rfl), by repeat (first | (with_reducible first | exact HB.out | apply below_alloc | apply pw_below_drewN | apply below_drew1) | exact HB.out)⟩
    · rw [if_neg c4] at H
      exact absurd H (by simp)
  · rw [if_neg c3] at H
    exact absurd H (by simp)
def pomaderef01_written.l0 : Nat → Int → Int → List Int → Int → Option (ByteArray)
  | 0, _, _, _, _ => none
  | k + 1, x0, x2, x7, x8 => if x8 ≥ 0 then (if x2 = 0 then (none) else (if 0 ≤ (Int.tmod x0 x2) then (if (Int.tmod x0 x2) < 3 then (if 0 ≤ x8 then (if x8 < (x7.length : Int) then (pomaderef01_written.l0 k (wrap64 (Int.tdiv x0 x2)) x2 (x7.set (x8 : Int).toNat (bt (⟨#[48, 49, 63]⟩ : ByteArray) (Int.tmod x0 x2))) (wrap64 (x8 - 1))) else (none)) else (none)) else (none)) else (none))) else (some (strOfNums x7))
def pomaderef01_written.f (k : Nat) (a0 : Int) (a1 : Int) (a2 : Int) : Option (ByteArray) := if 0 ≤ a1 then (if (a1 : Int).toNat ≤ 281474976710656 then (pomaderef01_written.l0 k a0 a2 (List.replicate (a1 : Int).toNat 0) (wrap64 (a1 - 1))) else (none)) else (none)
theorem pomaderef01_written.mono_l : ∀ k, (∀ y0 y1 y2 y3, LeO (pomaderef01_written.l0 k y0 y1 y2 y3) (pomaderef01_written.l0 (k + 1) y0 y1 y2 y3))
  | 0 => fun _ _ _ _ r h => by simp [pomaderef01_written.l0] at h
  | k + 1 => by
    have ih0 := pomaderef01_written.mono_l k
    · intro y0 y1 y2 y3
      unfold pomaderef01_written.l0
      repeat' first
      | (with_reducible exact ih0 _ _ _ _)
      | (with_reducible exact LeO.refl _)
      | (with_reducible exact LeO.none _)
      | (with_reducible refine LeO.ite ?_ ?_)
      | (with_reducible refine LeO.bind ?_ (fun _ => ?_))
      | exact ih0 _ _ _ _
      | exact LeO.none _
      | refine LeO.ite ?_ ?_
      | refine LeO.bind ?_ (fun _ => ?_)
theorem pomaderef01_written.mono : ∀ a0 a1 a2 k, LeO (pomaderef01_written.f k a0 a1 a2) (pomaderef01_written.f (k + 1) a0 a1 a2) := by
  intro a0 a1 a2 k
  have ih0 := pomaderef01_written.mono_l k
  unfold pomaderef01_written.f
  repeat' first
      | (with_reducible exact ih0 _ _ _ _)
      | (with_reducible exact LeO.refl _)
      | (with_reducible exact LeO.none _)
      | (with_reducible refine LeO.ite ?_ ?_)
      | (with_reducible refine LeO.bind ?_ (fun _ => ?_))
      | exact ih0 _ _ _ _
      | exact LeO.none _
      | refine LeO.ite ?_ ?_
      | refine LeO.bind ?_ (fun _ => ?_)
set_option maxHeartbeats 8000000 in
set_option maxRecDepth 100000 in
theorem pomaderef01_written.calls (k : Nat) (a0 : Int) (a1 : Int) (a2 : Int) (r : ByteArray) (w : World) (h : pomaderef01_written.f k a0 a1 a2 = some r) :
    Calls Tryd.prog 73 #[.int .i64 a0, .int .i64 a1, .int .i64 a2] w fun e w' => e = .returned (.string r) ∧ Below w.heap.size w w' := by
  have HB := Aside0.mk (Below.refl w.heap.size w)
  have H : (if 0 ≤ a1 then (if (a1 : Int).toNat ≤ 281474976710656 then (pomaderef01_written.l0 k a0 a2 (List.replicate (a1 : Int).toNat 0) (wrap64 (a1 - 1))) else (none)) else (none)) = some r := h
  clear h
  by_cases c4 : 0 ≤ a1
  · rw [if_pos c4] at H
    have c4b0 := eq_true c4
    have c4b1 : decide (0 ≤ a1) = true := decide_eq_true c4
    clear c4
    by_cases c5 : (a1 : Int).toNat ≤ 281474976710656
    · rw [if_pos c5] at H
      have c5b0 := eq_true c5
      have c5b1 : decide ((a1 : Int).toNat ≤ 281474976710656) = true := decide_eq_true c5
      clear c5
      obtain ⟨y175, hy175⟩ : ∃ y_ : List Int, y_ = (List.replicate (a1 : Int).toNat 0) := ⟨_, rfl⟩
      replace H : (pomaderef01_written.l0 k a0 a2 y175 (wrap64 (a1 - 1))) = some r := by first | (rw [hy175]; with_reducible exact H) | (have H2_ := (Option.bind_some _ _).symm.trans H; rw [hy175]; with_reducible exact H2_) | (have H2_ := (Option.bind_some _ _).symm.trans H; with_reducible exact H2_) | with_reducible exact H | (rw [hy175]; exact H) | exact H
      have Ny175 := Aside0.mk hy175
      clear hy175
      have H' := Aside0.mk H
      clear H
      go_enter Tryd.func73, Tryd.ntmps73
      go_wp2_with (first | ((with_reducible refine gate_dst (N := 10) rfl ?_); refine Kd.R_make (Kd.int .u8) _ 5 rfl (N := 10) rfl 49 _ _ rfl a1 rfl rfl Tryd.underlying49 (.int .u8 0) 1 info5 rfl (by decide) (by omega) 0 (ok := fun _ => True) (okp := fun _ => True) rfl (fun _ hk => hk) trivial (of_decide_eq_true (by first | (with_reducible assumption) | assumption)) (Nat.le_trans (Nat.mul_le_mul_right _ (of_decide_eq_true (by first | (with_reducible assumption) | assumption) : a1.toNat ≤ 281474976710656)) (by omega)) (Below.refl _ _) (Nat.le_refl _) ?_; intro v176 w6 ho7 hb hg_ hnew_; clear hg_ hnew_; (first | rw [← Ny175.out] at ho7 | (simp only [Int.reduceToNat] at ho7; rw [← Ny175.out] at ho7)); have n0_ := Aside0.mk (Kd.R_lower ho7 (below_size (by repeat (first | (with_reducible first | exact HB.out | apply below_alloc | apply pw_below_drewN | apply below_drew1) | exact HB.out)))); have n1_ := Aside0.mk (below_step (by repeat (first | (with_reducible first | exact HB.out | apply below_alloc | apply pw_below_drewN | apply below_drew1) | exact HB.out)) hb); clear HB; have HO177 := n0_; have HB := n1_; clear n0_ n1_; clear hb ho7))
      go_loopg [0, 8] k (fun kq v0 v8 w' => ∃ (x0_1 : Int) (x7_1 : List Int) (x8_1 : Int), v0 = .int .i64 x0_1 ∧ v8 = .int .i64 x8_1 ∧ Aside0 (pomaderef01_written.l0 kq x0_1 a2 x7_1 x8_1 = some r) ∧ Aside0 (kq ≤ k) ∧ Aside0 (Kd.R (Kd.int .u8) 5 w' w.heap.size (fun _ => True) v176 x7_1) ∧ Aside0 (Below w.heap.size w w'))
      case atStart => exact ⟨(a0), (y175), (wrap64 (a1 - 1)), (by first | rfl | (simp; done) | (simp [*]; done)), (by first | rfl | (simp; done) | (simp [*]; done)), H', ⟨Nat.le_refl _⟩, ⟨by (with_reducible repeat (first | apply Kd.R_alloc | apply Kd.R_drewN | apply Kd.R_drew)); exact HO177.out⟩, ⟨by repeat (first | (with_reducible first | exact HB.out | apply below_alloc | apply pw_below_drewN | apply below_drew1) | exact HB.out)⟩⟩
      case round =>
        clear H'
        try clear p2
        try clear c4
        try clear c4b0
        try clear c4b1
        try clear c5
        try clear c5b0
        try clear c5b1
        try clear p6
        try clear c7
        obtain ⟨x0_1, x7_1, x8_1, rfl, rfl, HA, HK1, HO_7, HB⟩ := hrel
        cases gk with
        | zero => exact absurd HA.out (by simp [pomaderef01_written.l0])
        | succ k1 =>
          have H := HA.out
          clear HA
          simp only [pomaderef01_written.l0] at H
          by_cases c8 : x8_1 ≥ 0
          · rw [if_pos c8] at H
            have c8b0 : decide (0 ≤ x8_1) = true := decide_eq_true c8
            clear c8
            by_cases c9 : a2 = 0
            · rw [if_pos c9] at H
              exact absurd H (by simp)
            · rw [if_neg c9] at H
              have c9b0 : (a2 == 0) = false := beq_eq_false_iff_ne.mpr c9
              have c9b1 : (a2 != 0) = true := bne_iff_ne.mpr c9
              obtain ⟨ji10, hji10⟩ : ∃ j_ : Int, (Int.tmod x0_1 a2) = j_ := ⟨_, rfl⟩
              replace H : (if 0 ≤ (ji10) then (if (ji10) < 3 then (if 0 ≤ x8_1 then (if x8_1 < (x7_1.length : Int) then (pomaderef01_written.l0 k1 (wrap64 (Int.tdiv x0_1 a2)) a2 (x7_1.set (x8_1 : Int).toNat (bt (⟨#[48, 49, 63]⟩ : ByteArray) (ji10))) (wrap64 (x8_1 - 1))) else (none)) else (none)) else (none)) else (none)) = some r := by first | (rw [hji10] at H; exact H) | (simp only [hji10] at H ⊢; exact H)
              by_cases c11 : 0 ≤ (ji10)
              · rw [if_pos c11] at H
                have c11b0 : decide (0 ≤ (ji10)) = true := decide_eq_true c11
                clear c11
                by_cases c12 : (ji10) < 3
                · rw [if_pos c12] at H
                  have c12b0 : decide ((ji10) < 3) = true := decide_eq_true c12
                  clear c12
                  by_cases c14 : 0 ≤ x8_1
                  · rw [if_pos c14] at H
                    have c14b0 : decide (0 ≤ x8_1) = true := decide_eq_true c14
                    clear c14
                    by_cases c15 : x8_1 < (x7_1.length : Int)
                    · rw [if_pos c15] at H
                      have c15b0 : decide (x8_1 < (x7_1.length : Int)) = true := decide_eq_true c15
                      clear c15
                      obtain ⟨y178, hy178⟩ : ∃ y_ : List Int, y_ = (x7_1.set (x8_1 : Int).toNat (bt (⟨#[48, 49, 63]⟩ : ByteArray) (ji10))) := ⟨_, rfl⟩
                      replace H : (pomaderef01_written.l0 k1 (wrap64 (Int.tdiv x0_1 a2)) a2 y178 (wrap64 (x8_1 - 1))) = some r := by first | (rw [hy178]; with_reducible exact H) | (have H2_ := (Option.bind_some _ _).symm.trans H; rw [hy178]; with_reducible exact H2_) | (have H2_ := (Option.bind_some _ _).symm.trans H; with_reducible exact H2_) | with_reducible exact H | (rw [hy178]; exact H) | exact H
                      have Ny178 := Aside0.mk hy178
                      clear hy178
                      have H' := Aside0.mk H
                      clear H
                      have p13 : 0 ≤ ((ji10) : Int) := of_decide_eq_true (by first | (with_reducible assumption) | assumption)
                      have q13 : (ji10) < (3 : Int) := of_decide_eq_true (by first | (with_reducible assumption) | assumption)
                      have hx13 := bt_at (⟨#[48, 49, 63]⟩ : ByteArray) (ji10)
                      replace p13 := eq_true p13
                      replace q13 := eq_true q13
                      have p16 : 0 ≤ (x8_1 : Int) := of_decide_eq_true (by first | (with_reducible assumption) | assumption)
                      have q16 : (x8_1 : Int) < ((x7_1.length : Int) : Int) := of_decide_eq_true (by first | (with_reducible assumption) | assumption)
                      obtain ⟨go16, co16, eo16, gb16, gl16, cl16, HG16⟩ := Kd.R_form HO_7.out (by omega)
                      (first | cases eo16 | (injection eo16 with ea_ en_ ec_; (first | subst ea_ | (injection ea_ with ea_; subst ea_)); subst ec_; clear en_))
                      have GB16 := Aside0.mk gb16
                      have GG16 := Aside0.mk HG16
                      clear gb16 gl16 HG16
                      obtain ⟨hx16_0, hf16_0⟩ := Kd.R_celln 0 HO_7.out (x8_1 : Int) p16 q16
                      replace p16 := eq_true p16
                      replace q16 := eq_true q16
                      have HP17 := Kd.R_putg HO_7.out (x8_1 : Int) (bt (⟨#[48, 49, 63]⟩ : ByteArray) (ji10))
                      go_wp2_with (first | ((with_reducible refine gate_store (t := 5) (p := 23) rfl ?_); refine store_event (t := 5) (p := 23) (v := ?vo_w18) (w1 := (wr.setCell ⟨go16, (x8_1 : Int).toNat, none⟩ (.int .u8 (bt (⟨#[48, 49, 63]⟩ : ByteArray) (ji10))))) ?hg ?ho ?hn ?hr ?_; (case ho => rfl); (case hg => rfl); (case hn => rfl); (case hr => first | (go_simp; done) | (go_simp; rfl)); intro w18 hw; have hg : wr.grownBy w18 (some go16) := (by rw [hw]; exact HP17.2); have hp_ : Kd.R (Kd.int .u8) 5 w18 w.heap.size (fun _ => True) (.slice (some ⟨go16, 0, none⟩) x7_1.length co16) y178 := (by rw [hw, Ny178.out]; exact HP17.1); clear HP17; have n0_ := Aside0.mk (hp_); have n1_ := Aside0.mk ((by rw [hw]; exact below_set (HB.out) GB16.out : Below w.heap.size w w18)); clear HO_7; clear HB; have HO_7 := n0_; have HB := n1_; clear n0_ n1_; clear hg hw hp_))
                      go_roundg k1
                      case measure => have := HK1.out; omega
                      case rel => exact ⟨(wrap64 (Int.tdiv x0_1 a2)), (y178), (wrap64 (x8_1 - 1)), (by first | rfl | (simp; done) | (simp [*]; done)), (by first | rfl | (simp; done) | (simp [*]; done)), H', ⟨by have := HK1.out; omega⟩, ⟨by (with_reducible repeat (first | apply Kd.R_alloc | apply Kd.R_drewN | apply Kd.R_drew)); exact HO_7.out⟩, ⟨by repeat (first | (with_reducible first | exact HB.out | apply below_alloc | apply pw_below_drewN | apply below_drew1) | exact HB.out)⟩⟩
                    · rw [if_neg c15] at H
                      exact absurd H (by simp)
                  · rw [if_neg c14] at H
                    exact absurd H (by simp)
                · rw [if_neg c12] at H
                  exact absurd H (by simp)
              · rw [if_neg c11] at H
                exact absurd H (by simp)
          · rw [if_neg c8] at H
            have c8b0 : decide (0 ≤ x8_1) = false := decide_eq_false c8
            clear c8
            obtain rfl := Option.some.inj H
            have hcv19 := own_string (P := Tryd.prog) Tryd.underlying49 Tryd.underlying5 Tryd.underlying9 (Kd.own_of_R HO_7.out)
            go_wp2
            go_ret
            exact ⟨by first | rfl | (simp [errW_none, errW_some] <;> rfl) | (simp [*, errW_none, errW_some] <;> rfl), by repeat (first | (with_reducible first | exact HB.out | apply below_alloc | apply pw_below_drewN | apply below_drew1) | exact HB.out)⟩
    · rw [if_neg c5] at H
      exact absurd H (by simp)
  · rw [if_neg c4] at H
    exact absurd H (by simp)
def pomaderef01_consistent.l0 : Nat → List (SNd) → List ByteArray → Int → Option (List ByteArray)
  | 0, _, _, _ => none
  | k + 1, x0, x3, x4 => if x4 < (shl .i64 1 (x0.length : Int)) then ((pomaderef01_written.f k x4 (x0.length : Int) 2).bind fun t179 => ((pomaderef01_values.f k x0 t179).bind fun t180 => (if t180.toList = t179.toList then (if x3.length < 8796093022208 then (pomaderef01_consistent.l0 k x0 (x3 ++ [t179]) (wrap64 (x4 + 1))) else (none)) else (pomaderef01_consistent.l0 k x0 x3 (wrap64 (x4 + 1)))))) else (some x3)
def pomaderef01_consistent.f (k : Nat) (l0 : List (SNd)) : Option (List ByteArray) := pomaderef01_consistent.l0 k l0 ([] : List ByteArray) 0
theorem pomaderef01_consistent.mono_l : ∀ k, (∀ y0 y1 y2, LeO (pomaderef01_consistent.l0 k y0 y1 y2) (pomaderef01_consistent.l0 (k + 1) y0 y1 y2))
  | 0 => fun _ _ _ r h => by simp [pomaderef01_consistent.l0] at h
  | k + 1 => by
    have ih0 := pomaderef01_consistent.mono_l k
    · intro y0 y1 y2
      unfold pomaderef01_consistent.l0
      repeat' first
      | (with_reducible exact ih0 _ _ _)
      | (with_reducible exact pomaderef01_values.mono _ _ _)
      | (with_reducible exact pomaderef01_written.mono _ _ _ _)
      | (with_reducible exact LeO.refl _)
      | (with_reducible exact LeO.none _)
      | (with_reducible refine LeO.ite ?_ ?_)
      | (with_reducible refine LeO.bind ?_ (fun _ => ?_))
      | exact ih0 _ _ _
      | exact pomaderef01_values.mono _ _ _
      | exact pomaderef01_written.mono _ _ _ _
      | exact LeO.none _
      | refine LeO.ite ?_ ?_
      | refine LeO.bind ?_ (fun _ => ?_)
theorem pomaderef01_consistent.mono : ∀ a0 k, LeO (pomaderef01_consistent.f k a0) (pomaderef01_consistent.f (k + 1) a0) := by
  intro a0 k
  have ih0 := pomaderef01_consistent.mono_l k
  unfold pomaderef01_consistent.f
  repeat' first
      | (with_reducible exact ih0 _ _ _)
      | (with_reducible exact pomaderef01_values.mono _ _ _)
      | (with_reducible exact pomaderef01_written.mono _ _ _ _)
      | (with_reducible exact LeO.refl _)
      | (with_reducible exact LeO.none _)
      | (with_reducible refine LeO.ite ?_ ?_)
      | (with_reducible refine LeO.bind ?_ (fun _ => ?_))
      | exact ih0 _ _ _
      | exact pomaderef01_values.mono _ _ _
      | exact pomaderef01_written.mono _ _ _ _
      | exact LeO.none _
      | refine LeO.ite ?_ ?_
      | refine LeO.bind ?_ (fun _ => ?_)
set_option maxHeartbeats 8000000 in
set_option maxRecDepth 100000 in
theorem pomaderef01_consistent.calls (k : Nat) (A0 : Option Addr) (c0 : Nat) (l0 : List (SNd)) (r : List ByteArray) (w : World) (hr0 : Kd.C kNd w A0 l0.length l0) (hc0 : l0.length ≤ c0) (h : pomaderef01_consistent.f k l0 = some r) :
    Calls Tryd.prog 66 #[.slice A0 l0.length c0] w fun e w' => ∃ v0_ : Value, e = .returned (v0_) ∧ Kd.R Kd.string 9 w' w.heap.size (fun _ => True) v0_ r ∧ Below w.heap.size w w' := by
  have HR0 := Aside0.mk hr0
  have HC0 := Aside0.mk hc0
  clear hr0 hc0
  have HB := Aside0.mk (Below.refl w.heap.size w)
  have H : (pomaderef01_consistent.l0 k l0 ([] : List ByteArray) 0) = some r := h
  clear h
  have H' := Aside0.mk H
  clear H
  go_enter Tryd.func66, Tryd.ntmps66
  go_wp2
  go_loopg [3, 4] k (fun kq v3 v4 w' => ∃ (x3_1 : List ByteArray) (x4_1 : Int), v4 = .int .i64 x4_1 ∧ Aside0 (pomaderef01_consistent.l0 kq l0 x3_1 x4_1 = some r) ∧ Aside0 (kq ≤ k) ∧ Aside0 (Kd.R Kd.string 9 w' w.heap.size (fun _ => True) v3 x3_1) ∧ Aside0 (Below w.heap.size w w'))
  case atStart => exact ⟨(([] : List ByteArray)), (0), (by first | rfl | (simp; done) | (simp [*]; done)), H', ⟨Nat.le_refl _⟩, ⟨by first | exact Kd.R_nil _ _ _ _ _ | exact Kd.N_nil _ _ _ _ _ | exact Kd.V_nil _ _ _ _ _ | exact Kd.Q_nil _ _ _ _ _ | exact Kd.S_nil _ _ _ _ _⟩, ⟨by repeat (first | (with_reducible first | exact HB.out | apply below_alloc | apply pw_below_drewN | apply below_drew1) | exact HB.out)⟩⟩
  case round =>
    clear H'
    obtain ⟨x3_1, x4_1, rfl, HA, HK1, HO_3, HB⟩ := hrel
    cases gk with
    | zero => exact absurd HA.out (by simp [pomaderef01_consistent.l0])
    | succ k1 =>
      have H := HA.out
      clear HA
      simp only [pomaderef01_consistent.l0] at H
      obtain ⟨ji2, hji2⟩ : ∃ j_ : Int, (shl .i64 1 (l0.length : Int)) = j_ := ⟨_, rfl⟩
      replace H : (if x4_1 < (ji2) then ((pomaderef01_written.f k1 x4_1 (l0.length : Int) 2).bind fun t179 => ((pomaderef01_values.f k1 l0 t179).bind fun t180 => (if t180.toList = t179.toList then (if x3_1.length < 8796093022208 then (pomaderef01_consistent.l0 k1 l0 (x3_1 ++ [t179]) (wrap64 (x4_1 + 1))) else (none)) else (pomaderef01_consistent.l0 k1 l0 x3_1 (wrap64 (x4_1 + 1)))))) else (some x3_1)) = some r := by first | (rw [hji2] at H; exact H) | (simp only [hji2] at H ⊢; exact H)
      have hji2_ : (IntKind.i64.wrap (1 * 2 ^ min (l0.length : Int).toNat 64)) = ji2 := hji2
      have hji2z : (l0.length : Int) ≤ 64 → (IntKind.i64.wrap (1 * 2 ^ (l0.length : Int).toNat)) = ji2 := shl_small hji2
      have hji2p : (IntKind.i64.wrap (1 * 2 ^ min l0.length 64)) = ji2 := hji2_
      have hji2q : (l0.length : Int) ≤ 64 → (IntKind.i64.wrap (1 * 2 ^ l0.length)) = ji2 := hji2z
      have hji2r : (IntKind.i64.wrap (2 ^ min l0.length 64)) = ji2 := by have h_ := hji2p; rw [Int.one_mul] at h_; exact h_
      have hji2s : (l0.length : Int) ≤ 64 → (IntKind.i64.wrap (2 ^ l0.length)) = ji2 := fun hle_ => by have h_ := hji2q hle_; rw [Int.one_mul] at h_; exact h_
      have hji2u : (IntKind.i64.wrap (2 ^ min (l0.length : Int).toNat 64)) = ji2 := by have h_ := hji2_; rw [Int.one_mul] at h_; exact h_
      have hji2v : (l0.length : Int) ≤ 64 → (IntKind.i64.wrap (2 ^ (l0.length : Int).toNat)) = ji2 := fun hle_ => by have h_ := hji2z hle_; rw [Int.one_mul] at h_; exact h_
      have hji2y : (wrap64 (1 * 2 ^ min (l0.length : Int).toNat 64)) = ji2 := (i64_w _).symm.trans hji2_
      have hji2x : (l0.length : Int) ≤ 64 → (wrap64 (1 * 2 ^ (l0.length : Int).toNat)) = ji2 := fun h_ => (i64_w _).symm.trans (hji2z h_)
      by_cases c3 : x4_1 < (ji2)
      · rw [if_pos c3] at H
        have c3b0 : decide (x4_1 < (ji2)) = true := decide_eq_true c3
        clear c3
        replace H := Option.bind_eq_some_iff.mp H
        obtain ⟨t179, A40, H⟩ := H
        replace H : ((pomaderef01_values.f k1 l0 t179).bind fun t180 => (if t180.toList = t179.toList then (if x3_1.length < 8796093022208 then (pomaderef01_consistent.l0 k1 l0 (x3_1 ++ [t179]) (wrap64 (x4_1 + 1))) else (none)) else (pomaderef01_consistent.l0 k1 l0 x3_1 (wrap64 (x4_1 + 1))))) = some r := H
        have A4 := Aside0.mk A40
        clear A40
        replace H := Option.bind_eq_some_iff.mp H
        obtain ⟨t180, A50, H⟩ := H
        replace H : (if t180.toList = t179.toList then (if x3_1.length < 8796093022208 then (pomaderef01_consistent.l0 k1 l0 (x3_1 ++ [t179]) (wrap64 (x4_1 + 1))) else (none)) else (pomaderef01_consistent.l0 k1 l0 x3_1 (wrap64 (x4_1 + 1)))) = some r := H
        have A5 := Aside0.mk A50
        clear A50
        by_cases c6 : t180.toList = t179.toList
        · rw [if_pos c6] at H
          have c6b0 : (t180.toList == t179.toList) = true := beq_iff_eq.mpr c6
          have c6b1 : (t180.toList != t179.toList) = false := bne_eq_false_iff_eq.mpr c6
          clear c6
          by_cases c7 : x3_1.length < 8796093022208
          · rw [if_pos c7] at H
            have LMc7 := Aside0.mk c7
            clear c7
            obtain ⟨y181, hy181⟩ : ∃ y_ : List ByteArray, y_ = (x3_1 ++ [t179]) := ⟨_, rfl⟩
            replace H : (pomaderef01_consistent.l0 k1 l0 y181 (wrap64 (x4_1 + 1))) = some r := by first | (rw [hy181]; with_reducible exact H) | (have H2_ := (Option.bind_some _ _).symm.trans H; rw [hy181]; with_reducible exact H2_) | (have H2_ := (Option.bind_some _ _).symm.trans H; with_reducible exact H2_) | with_reducible exact H | (rw [hy181]; exact H) | exact H
            have Ny181 := Aside0.mk hy181
            clear hy181
            have H' := Aside0.mk H
            clear H
            go_wp2_with (first | ((with_reducible refine gate_callee (f := 73) rfl ?_); refine goesL_ (some 16) rfl rfl Tryd.func73 (by kernel_rfl) rfl #[.int .i64 x4_1, .int .i64 (l0.length : Int), .int .i64 2] rfl (by (try simp only [List.map_toArray, List.map_cons, List.map_nil]); first | done | rfl | (simp only [List.length_drop, List.length_take]; rfl)) ?_; (with_reducible refine (pomaderef01_written.calls k1 x4_1 (l0.length : Int) 2 t179 _ A4.out).mono ?_); rintro e w8 ⟨rfl, hb⟩; refine ⟨_, rfl, ?_⟩; have n0_ := Aside0.mk (Kd.R_below (by (with_reducible repeat (first | apply Kd.R_alloc | apply Kd.R_drewN | apply Kd.R_drew)); exact HO_3.out) hb); have n1_ := Aside0.mk (below_step (by repeat (first | (with_reducible first | exact HB.out | apply below_alloc | apply pw_below_drewN | apply below_drew1) | exact HB.out)) hb); clear HO_3; clear HB; have HO_3 := n0_; have HB := n1_; clear n0_ n1_; (try clear hb); (try clear hb2); (try clear hk); (try clear hi)) | ((with_reducible refine gate_callee (f := 63) rfl ?_); refine goesL_ (some 19) rfl rfl Tryd.func63 (by kernel_rfl) rfl #[.slice A0 l0.length c0, .string t179] rfl (by (try simp only [List.map_toArray, List.map_cons, List.map_nil]); first | done | rfl | (simp only [List.length_drop, List.length_take]; rfl)) ?_; (with_reducible refine (pomaderef01_values.calls k1 _ _ l0 t179 t180 _ ?side1 ?side2 A5.out).mono ?_); (case side1 => repeat (first | exact (Kd.C_below HR0.out HB.out) | (with_reducible refine Kd.C_alloc ?_ _) | (with_reducible refine Kd.C_drewN ?_ _) | (with_reducible refine Kd.C_drew ?_))); (case side2 => exact HC0.out); rintro e w9 ⟨rfl, hb⟩; refine ⟨_, rfl, ?_⟩; have n0_ := Aside0.mk (Kd.R_below (by (with_reducible repeat (first | apply Kd.R_alloc | apply Kd.R_drewN | apply Kd.R_drew)); exact HO_3.out) hb); have n1_ := Aside0.mk (below_step (by repeat (first | (with_reducible first | exact HB.out | apply below_alloc | apply pw_below_drewN | apply below_drew1) | exact HB.out)) hb); clear HO_3; clear HB; have HO_3 := n0_; have HB := n1_; clear n0_ n1_; (try clear hb); (try clear hb2); (try clear hk); (try clear hi)) | ((with_reducible refine gate_builtin (b := .append) (xs := #[.tmp 22, .tmp 24]) rfl ?_); at_builtin; refine Kd.R_append Kd.string (w0 := w) w.heap.size rfl (.tmp 22) (.tmp 24) 22 9 (.string ⟨#[]⟩) 16 rfl Tryd.underlying22 info9 rfl (by decide) (by omega) u3 x3_1 t179 [.string t179] (fun _ => True) (fun _ => False) rfl rfl ?aP (fun _ hk => hk.elim) ?aF ?aO ?aB ?aS ?aL ?_; (case aP => exact rfl); (case aB => exact (by repeat (first | (with_reducible first | exact HB.out | apply below_alloc | apply pw_below_drewN | apply below_drew1) | exact HB.out))); (case aF => exact (fun _ _ => trivial)); (case aO => exact (by (with_reducible repeat (first | apply Kd.R_alloc | apply Kd.R_drewN | apply Kd.R_drew)); exact HO_3.out)); (case aS => exact (below_size (by repeat (first | (with_reducible first | exact HB.out | apply below_alloc | apply pw_below_drewN | apply below_drew1) | exact HB.out)))); (case aL => have := LMc7.out; omega); intro v182 w10 ho hb hg hat; rw [← Ny181.out] at ho; have n0_ := Aside0.mk (hb); have n1_ := Aside0.mk (ho); clear HB; clear HO_3; have HB := n0_; have HO183 := n1_; clear n0_ n1_; clear ho hb hg hat))
            go_roundg k1
            case measure => have := HK1.out; omega
            case rel => exact ⟨(y181), (wrap64 (x4_1 + 1)), (by first | rfl | (simp; done) | (simp [*]; done)), H', ⟨by have := HK1.out; omega⟩, ⟨by (with_reducible repeat (first | apply Kd.R_alloc | apply Kd.R_drewN | apply Kd.R_drew)); exact HO183.out⟩, ⟨by repeat (first | (with_reducible first | exact HB.out | apply below_alloc | apply pw_below_drewN | apply below_drew1) | exact HB.out)⟩⟩
          · rw [if_neg c7] at H
            exact absurd H (by simp)
        · rw [if_neg c6] at H
          have c6b0 : (t180.toList == t179.toList) = false := beq_eq_false_iff_ne.mpr c6
          have c6b1 : (t180.toList != t179.toList) = true := bne_iff_ne.mpr c6
          have H' := Aside0.mk H
          clear H
          go_wp2_with (first | ((with_reducible refine gate_callee (f := 73) rfl ?_); refine goesL_ (some 16) rfl rfl Tryd.func73 (by kernel_rfl) rfl #[.int .i64 x4_1, .int .i64 (l0.length : Int), .int .i64 2] rfl (by (try simp only [List.map_toArray, List.map_cons, List.map_nil]); first | done | rfl | (simp only [List.length_drop, List.length_take]; rfl)) ?_; (with_reducible refine (pomaderef01_written.calls k1 x4_1 (l0.length : Int) 2 t179 _ A4.out).mono ?_); rintro e w11 ⟨rfl, hb⟩; refine ⟨_, rfl, ?_⟩; have n0_ := Aside0.mk (Kd.R_below (by (with_reducible repeat (first | apply Kd.R_alloc | apply Kd.R_drewN | apply Kd.R_drew)); exact HO_3.out) hb); have n1_ := Aside0.mk (below_step (by repeat (first | (with_reducible first | exact HB.out | apply below_alloc | apply pw_below_drewN | apply below_drew1) | exact HB.out)) hb); clear HO_3; clear HB; have HO_3 := n0_; have HB := n1_; clear n0_ n1_; (try clear hb); (try clear hb2); (try clear hk); (try clear hi)) | ((with_reducible refine gate_callee (f := 63) rfl ?_); refine goesL_ (some 19) rfl rfl Tryd.func63 (by kernel_rfl) rfl #[.slice A0 l0.length c0, .string t179] rfl (by (try simp only [List.map_toArray, List.map_cons, List.map_nil]); first | done | rfl | (simp only [List.length_drop, List.length_take]; rfl)) ?_; (with_reducible refine (pomaderef01_values.calls k1 _ _ l0 t179 t180 _ ?side1 ?side2 A5.out).mono ?_); (case side1 => repeat (first | exact (Kd.C_below HR0.out HB.out) | (with_reducible refine Kd.C_alloc ?_ _) | (with_reducible refine Kd.C_drewN ?_ _) | (with_reducible refine Kd.C_drew ?_))); (case side2 => exact HC0.out); rintro e w12 ⟨rfl, hb⟩; refine ⟨_, rfl, ?_⟩; have n0_ := Aside0.mk (Kd.R_below (by (with_reducible repeat (first | apply Kd.R_alloc | apply Kd.R_drewN | apply Kd.R_drew)); exact HO_3.out) hb); have n1_ := Aside0.mk (below_step (by repeat (first | (with_reducible first | exact HB.out | apply below_alloc | apply pw_below_drewN | apply below_drew1) | exact HB.out)) hb); clear HO_3; clear HB; have HO_3 := n0_; have HB := n1_; clear n0_ n1_; (try clear hb); (try clear hb2); (try clear hk); (try clear hi)))
          go_roundg k1
          case measure => have := HK1.out; omega
          case rel => exact ⟨(x3_1), (wrap64 (x4_1 + 1)), (by first | rfl | (simp; done) | (simp [*]; done)), H', ⟨by have := HK1.out; omega⟩, ⟨by (with_reducible repeat (first | apply Kd.R_alloc | apply Kd.R_drewN | apply Kd.R_drew)); exact HO_3.out⟩, ⟨by repeat (first | (with_reducible first | exact HB.out | apply below_alloc | apply pw_below_drewN | apply below_drew1) | exact HB.out)⟩⟩
      · rw [if_neg c3] at H
        have c3b0 : decide (x4_1 < (ji2)) = false := decide_eq_false c3
        clear c3
        obtain rfl := Option.some.inj H
        go_wp2
        go_ret
        exact ⟨_, by first | rfl | (simp [errW_none, errW_some] <;> rfl) | (simp only [← hji2]; first | rfl | (simp [errW_none, errW_some] <;> rfl)) | (simp [*, errW_none, errW_some] <;> rfl), by (with_reducible repeat (first | apply Kd.R_alloc | apply Kd.R_drewN | apply Kd.R_drew)); exact HO_3.out, by repeat (first | (with_reducible first | exact HB.out | apply below_alloc | apply pw_below_drewN | apply below_drew1) | exact HB.out)⟩
end Go.Proofs.YtijaefmaceolbaaDoor.Im

namespace Go.Proofs.YtijaefmaceolbaaDoor.Im
open Go.RowKit Go.Proofs.YtijaefmaceolbaaDoorW.PrintWords Go.Proofs.YtijaefmaceolbaaDoorW.PrintLast Go.Proofs.YtijaefmaceolbaaDoorW.PrintMore
attribute [local go_sem] max2_int min2_int max_two min_two max_three min_three max_four min_four
set_option linter.unusedVariables false
set_option linter.unusedSimpArgs false
def pomaderef01_joined.f (a0 : Int) (a1 : Int) : Option (Int) := if (Int.tmod a1 2) = 1 then (if (wrap64 (Int.tdiv a1 2)) = 1 then (some (Go.bits .or .i64 (Go.bits .or .i64 (Go.bits .or .i64 0 a0) (a0 / 2)) (wrap64 ((Go.bits .and .i64 a0 1) * 2)))) else (some (Go.bits .or .i64 0 a0))) else (if (wrap64 (Int.tdiv a1 2)) = 1 then (some (Go.bits .or .i64 (Go.bits .or .i64 0 (a0 / 2)) (wrap64 ((Go.bits .and .i64 a0 1) * 2)))) else (some 0))
set_option maxHeartbeats 8000000 in
set_option maxRecDepth 100000 in
theorem pomaderef01_joined.calls (a0 : Int) (a1 : Int) (r : Int) (w : World) (h : pomaderef01_joined.f a0 a1 = some r) :
    Calls Tryd.prog 86 #[.int .i64 a0, .int .i64 a1] w fun e w' => e = .returned (.int .i64 r) ∧ Drawn0 w w' := by
  have H : (if (Int.tmod a1 2) = 1 then (if (wrap64 (Int.tdiv a1 2)) = 1 then (some (Go.bits .or .i64 (Go.bits .or .i64 (Go.bits .or .i64 0 a0) (a0 / 2)) (wrap64 ((Go.bits .and .i64 a0 1) * 2)))) else (some (Go.bits .or .i64 0 a0))) else (if (wrap64 (Int.tdiv a1 2)) = 1 then (some (Go.bits .or .i64 (Go.bits .or .i64 0 (a0 / 2)) (wrap64 ((Go.bits .and .i64 a0 1) * 2)))) else (some 0))) = some r := h
  clear h
  by_cases c3 : (Int.tmod a1 2) = 1
  · rw [if_pos c3] at H
    have c3b0 : ((Int.tmod a1 2) == 1) = true := beq_iff_eq.mpr c3
    have c3b1 : ((Int.tmod a1 2) != 1) = false := bne_eq_false_iff_eq.mpr c3
    clear c3
    by_cases c4 : (wrap64 (Int.tdiv a1 2)) = 1
    · rw [if_pos c4] at H
      have c4b0 : ((wrap64 (Int.tdiv a1 2)) == 1) = true := beq_iff_eq.mpr c4
      have c4b1 : ((wrap64 (Int.tdiv a1 2)) != 1) = false := bne_eq_false_iff_eq.mpr c4
      clear c4
      obtain rfl := Option.some.inj H
      go_enter Tryd.func86, Tryd.ntmps86
      go_wp2
      go_ret
      exact ⟨by first | rfl | (simp; done) | (simp [*]; done), by repeat (first | exact Drawn0.refl _ | apply Drawn0.step)⟩
    · rw [if_neg c4] at H
      have c4b0 : ((wrap64 (Int.tdiv a1 2)) == 1) = false := beq_eq_false_iff_ne.mpr c4
      have c4b1 : ((wrap64 (Int.tdiv a1 2)) != 1) = true := bne_iff_ne.mpr c4
      obtain rfl := Option.some.inj H
      go_enter Tryd.func86, Tryd.ntmps86
      go_wp2
      go_ret
      exact ⟨by first | rfl | (simp; done) | (simp [*]; done), by repeat (first | exact Drawn0.refl _ | apply Drawn0.step)⟩
  · rw [if_neg c3] at H
    have c3b0 : ((Int.tmod a1 2) == 1) = false := beq_eq_false_iff_ne.mpr c3
    have c3b1 : ((Int.tmod a1 2) != 1) = true := bne_iff_ne.mpr c3
    by_cases c5 : (wrap64 (Int.tdiv a1 2)) = 1
    · rw [if_pos c5] at H
      have c5b0 : ((wrap64 (Int.tdiv a1 2)) == 1) = true := beq_iff_eq.mpr c5
      have c5b1 : ((wrap64 (Int.tdiv a1 2)) != 1) = false := bne_eq_false_iff_eq.mpr c5
      clear c5
      obtain rfl := Option.some.inj H
      go_enter Tryd.func86, Tryd.ntmps86
      go_wp2
      go_ret
      exact ⟨by first | rfl | (simp; done) | (simp [*]; done), by repeat (first | exact Drawn0.refl _ | apply Drawn0.step)⟩
    · rw [if_neg c5] at H
      have c5b0 : ((wrap64 (Int.tdiv a1 2)) == 1) = false := beq_eq_false_iff_ne.mpr c5
      have c5b1 : ((wrap64 (Int.tdiv a1 2)) != 1) = true := bne_iff_ne.mpr c5
      obtain rfl := Option.some.inj H
      go_enter Tryd.func86, Tryd.ntmps86
      go_wp2
      go_ret
      exact ⟨by first | rfl | (simp; done) | (simp [*]; done), by repeat (first | exact Drawn0.refl _ | apply Drawn0.step)⟩
def pomaderef01_Partial.l0 : Nat → ByteArray → Int → Int → Option (Bool)
  | 0, _, _, _ => none
  | k + 1, x0, x1, x5 => if x5 < x1 then (if 0 ≤ x5 then (if x5 < (x0.size : Int) then (if (bt x0 x5) = 48 then (pomaderef01_Partial.l0 k x0 x1 (wrap64 (x5 + 1))) else (if (bt x0 x5) = 49 then (pomaderef01_Partial.l0 k x0 x1 (wrap64 (x5 + 1))) else (if (bt x0 x5) = 63 then (pomaderef01_Partial.l0 k x0 x1 (wrap64 (x5 + 1))) else (some false)))) else (none)) else (none)) else (some true)
def pomaderef01_Partial.f (k : Nat) (a0 : ByteArray) (a1 : Int) : Option (Bool) := if (a0.size : Int) = a1 then (pomaderef01_Partial.l0 k a0 a1 0) else (some false)
theorem pomaderef01_Partial.mono_l : ∀ k, (∀ y0 y1 y2, LeO (pomaderef01_Partial.l0 k y0 y1 y2) (pomaderef01_Partial.l0 (k + 1) y0 y1 y2))
  | 0 => fun _ _ _ r h => by simp [pomaderef01_Partial.l0] at h
  | k + 1 => by
    have ih0 := pomaderef01_Partial.mono_l k
    · intro y0 y1 y2
      unfold pomaderef01_Partial.l0
      repeat' first
      | (with_reducible exact ih0 _ _ _)
      | (with_reducible exact LeO.refl _)
      | (with_reducible exact LeO.none _)
      | (with_reducible refine LeO.ite ?_ ?_)
      | (with_reducible refine LeO.bind ?_ (fun _ => ?_))
      | exact ih0 _ _ _
      | exact LeO.none _
      | refine LeO.ite ?_ ?_
      | refine LeO.bind ?_ (fun _ => ?_)
theorem pomaderef01_Partial.mono : ∀ a0 a1 k, LeO (pomaderef01_Partial.f k a0 a1) (pomaderef01_Partial.f (k + 1) a0 a1) := by
  intro a0 a1 k
  have ih0 := pomaderef01_Partial.mono_l k
  unfold pomaderef01_Partial.f
  repeat' first
      | (with_reducible exact ih0 _ _ _)
      | (with_reducible exact LeO.refl _)
      | (with_reducible exact LeO.none _)
      | (with_reducible refine LeO.ite ?_ ?_)
      | (with_reducible refine LeO.bind ?_ (fun _ => ?_))
      | exact ih0 _ _ _
      | exact LeO.none _
      | refine LeO.ite ?_ ?_
      | refine LeO.bind ?_ (fun _ => ?_)
set_option maxHeartbeats 8000000 in
set_option maxRecDepth 100000 in
theorem pomaderef01_Partial.calls (k : Nat) (a0 : ByteArray) (a1 : Int) (r : Bool) (w : World) (h : pomaderef01_Partial.f k a0 a1 = some r) :
    Calls Tryd.prog 62 #[.string a0, .int .i64 a1] w fun e w' => e = .returned (.bool r) ∧ Drawn0 w w' := by
  have H : (if (a0.size : Int) = a1 then (pomaderef01_Partial.l0 k a0 a1 0) else (some false)) = some r := h
  clear h
  by_cases c3 : (a0.size : Int) = a1
  · rw [if_pos c3] at H
    have c3b0 : ((a0.size : Int) == a1) = true := beq_iff_eq.mpr c3
    have c3b1 : ((a0.size : Int) != a1) = false := bne_eq_false_iff_eq.mpr c3
    clear c3
    have H' := Aside0.mk H
    clear H
    go_enter Tryd.func62, Tryd.ntmps62
    go_wp2
    go_loopg [5] k (fun kq v5 w' => ∃ (x5_1 : Int), v5 = .int .i64 x5_1 ∧ Aside0 (pomaderef01_Partial.l0 kq a0 a1 x5_1 = some r) ∧ Aside0 (kq ≤ k) ∧ Drawn0 w w')
    case atStart => exact ⟨(0), (by first | rfl | (simp; done) | (simp [*]; done)), H', ⟨Nat.le_refl _⟩, by repeat (first | exact Drawn0.refl _ | apply Drawn0.step)⟩
    case round =>
      clear H'
      try clear p2
      try clear c3
      try clear c3b0
      try clear c3b1
      obtain ⟨x5_1, rfl, HA, HK1, ⟨m1, rfl⟩⟩ := hrel
      cases gk with
      | zero => exact absurd HA.out (by simp [pomaderef01_Partial.l0])
      | succ k1 =>
        have H := HA.out
        clear HA
        simp only [pomaderef01_Partial.l0] at H
        by_cases c4 : x5_1 < a1
        · rw [if_pos c4] at H
          have c4b0 : decide (x5_1 < a1) = true := decide_eq_true c4
          clear c4
          by_cases c5 : 0 ≤ x5_1
          · rw [if_pos c5] at H
            have c5b0 : decide (0 ≤ x5_1) = true := decide_eq_true c5
            clear c5
            by_cases c6 : x5_1 < (a0.size : Int)
            · rw [if_pos c6] at H
              have c6b0 : decide (x5_1 < (a0.size : Int)) = true := decide_eq_true c6
              clear c6
              by_cases c8 : (bt a0 x5_1) = 48
              · rw [if_pos c8] at H
                have c8b0 : ((bt a0 x5_1) == 48) = true := beq_iff_eq.mpr c8
                have c8b1 : ((bt a0 x5_1) != 48) = false := bne_eq_false_iff_eq.mpr c8
                clear c8
                have H' := Aside0.mk H
                clear H
                have p7 : 0 ≤ (x5_1 : Int) := of_decide_eq_true (by first | (with_reducible assumption) | assumption)
                have q7 : x5_1 < (a0.size : Int) := of_decide_eq_true (by first | (with_reducible assumption) | assumption)
                have hx7 := bt_at a0 x5_1
                replace p7 := eq_true p7
                replace q7 := eq_true q7
                go_wp2
                go_roundg k1
                case measure => have := HK1.out; omega
                case rel => exact ⟨(wrap64 (x5_1 + 1)), (by first | rfl | (simp; done) | (simp [*]; done)), H', ⟨by have := HK1.out; omega⟩, by repeat (first | exact Drawn0.refl _ | apply Drawn0.step)⟩
              · rw [if_neg c8] at H
                have c8b0 : ((bt a0 x5_1) == 48) = false := beq_eq_false_iff_ne.mpr c8
                have c8b1 : ((bt a0 x5_1) != 48) = true := bne_iff_ne.mpr c8
                by_cases c10 : (bt a0 x5_1) = 49
                · rw [if_pos c10] at H
                  have c10b0 : ((bt a0 x5_1) == 49) = true := beq_iff_eq.mpr c10
                  have c10b1 : ((bt a0 x5_1) != 49) = false := bne_eq_false_iff_eq.mpr c10
                  clear c10
                  have H' := Aside0.mk H
                  clear H
                  have p7 : 0 ≤ (x5_1 : Int) := of_decide_eq_true (by first | (with_reducible assumption) | assumption)
                  have q7 : x5_1 < (a0.size : Int) := of_decide_eq_true (by first | (with_reducible assumption) | assumption)
                  have hx7 := bt_at a0 x5_1
                  replace p7 := eq_true p7
                  replace q7 := eq_true q7
                  have p9 : 0 ≤ (x5_1 : Int) := of_decide_eq_true (by first | (with_reducible assumption) | assumption)
                  have q9 : x5_1 < (a0.size : Int) := of_decide_eq_true (by first | (with_reducible assumption) | assumption)
                  have hx9 := bt_at a0 x5_1
                  replace p9 := eq_true p9
                  replace q9 := eq_true q9
                  go_wp2
                  go_roundg k1
                  case measure => have := HK1.out; omega
                  case rel => exact ⟨(wrap64 (x5_1 + 1)), (by first | rfl | (simp; done) | (simp [*]; done)), H', ⟨by have := HK1.out; omega⟩, by repeat (first | exact Drawn0.refl _ | apply Drawn0.step)⟩
                · rw [if_neg c10] at H
                  have c10b0 : ((bt a0 x5_1) == 49) = false := beq_eq_false_iff_ne.mpr c10
                  have c10b1 : ((bt a0 x5_1) != 49) = true := bne_iff_ne.mpr c10
                  by_cases c12 : (bt a0 x5_1) = 63
                  · rw [if_pos c12] at H
                    have c12b0 : ((bt a0 x5_1) == 63) = true := beq_iff_eq.mpr c12
                    have c12b1 : ((bt a0 x5_1) != 63) = false := bne_eq_false_iff_eq.mpr c12
                    clear c12
                    have H' := Aside0.mk H
                    clear H
                    have p7 : 0 ≤ (x5_1 : Int) := of_decide_eq_true (by first | (with_reducible assumption) | assumption)
                    have q7 : x5_1 < (a0.size : Int) := of_decide_eq_true (by first | (with_reducible assumption) | assumption)
                    have hx7 := bt_at a0 x5_1
                    replace p7 := eq_true p7
                    replace q7 := eq_true q7
                    have p9 : 0 ≤ (x5_1 : Int) := of_decide_eq_true (by first | (with_reducible assumption) | assumption)
                    have q9 : x5_1 < (a0.size : Int) := of_decide_eq_true (by first | (with_reducible assumption) | assumption)
                    have hx9 := bt_at a0 x5_1
                    replace p9 := eq_true p9
                    replace q9 := eq_true q9
                    have p11 : 0 ≤ (x5_1 : Int) := of_decide_eq_true (by first | (with_reducible assumption) | assumption)
                    have q11 : x5_1 < (a0.size : Int) := of_decide_eq_true (by first | (with_reducible assumption) | assumption)
                    have hx11 := bt_at a0 x5_1
                    replace p11 := eq_true p11
                    replace q11 := eq_true q11
                    go_wp2
                    go_roundg k1
                    case measure => have := HK1.out; omega
                    case rel => exact ⟨(wrap64 (x5_1 + 1)), (by first | rfl | (simp; done) | (simp [*]; done)), H', ⟨by have := HK1.out; omega⟩, by repeat (first | exact Drawn0.refl _ | apply Drawn0.step)⟩
                  · rw [if_neg c12] at H
                    have c12b0 : ((bt a0 x5_1) == 63) = false := beq_eq_false_iff_ne.mpr c12
                    have c12b1 : ((bt a0 x5_1) != 63) = true := bne_iff_ne.mpr c12
                    obtain rfl := Option.some.inj H
                    have p7 : 0 ≤ (x5_1 : Int) := of_decide_eq_true (by first | (with_reducible assumption) | assumption)
                    have q7 : x5_1 < (a0.size : Int) := of_decide_eq_true (by first | (with_reducible assumption) | assumption)
                    have hx7 := bt_at a0 x5_1
                    replace p7 := eq_true p7
                    replace q7 := eq_true q7
                    have p9 : 0 ≤ (x5_1 : Int) := of_decide_eq_true (by first | (with_reducible assumption) | assumption)
                    have q9 : x5_1 < (a0.size : Int) := of_decide_eq_true (by first | (with_reducible assumption) | assumption)
                    have hx9 := bt_at a0 x5_1
                    replace p9 := eq_true p9
                    replace q9 := eq_true q9
                    have p11 : 0 ≤ (x5_1 : Int) := of_decide_eq_true (by first | (with_reducible assumption) | assumption)
                    have q11 : x5_1 < (a0.size : Int) := of_decide_eq_true (by first | (with_reducible assumption) | assumption)
                    have hx11 := bt_at a0 x5_1
                    replace p11 := eq_true p11
                    replace q11 := eq_true q11
                    go_wp2
                    go_ret
                    exact ⟨by first | rfl | (simp; done) | (simp [*]; done), by repeat (first | exact Drawn0.refl _ | apply Drawn0.step)⟩
            · rw [if_neg c6] at H
              exact absurd H (by simp)
          · rw [if_neg c5] at H
            exact absurd H (by simp)
        · rw [if_neg c4] at H
          have c4b0 : decide (x5_1 < a1) = false := decide_eq_false c4
          clear c4
          obtain rfl := Option.some.inj H
          go_wp2
          go_ret
          exact ⟨by first | rfl | (simp; done) | (simp [*]; done), by repeat (first | exact Drawn0.refl _ | apply Drawn0.step)⟩
  · rw [if_neg c3] at H
    have c3b0 : ((a0.size : Int) == a1) = false := beq_eq_false_iff_ne.mpr c3
    have c3b1 : ((a0.size : Int) != a1) = true := bne_iff_ne.mpr c3
    obtain rfl := Option.some.inj H
    go_enter Tryd.func62, Tryd.ntmps62
    go_wp2
    go_ret
    exact ⟨by first | rfl | (simp; done) | (simp [*]; done), by repeat (first | exact Drawn0.refl _ | apply Drawn0.step)⟩
def pomaderef01_Whole.l0 : Nat → ByteArray → Int → Int → Option (Bool)
  | 0, _, _, _ => none
  | k + 1, x0, x1, x5 => if x5 < x1 then (if 0 ≤ x5 then (if x5 < (x0.size : Int) then (if (bt x0 x5) = 63 then (some false) else (pomaderef01_Whole.l0 k x0 x1 (wrap64 (x5 + 1)))) else (none)) else (none)) else (some true)
def pomaderef01_Whole.f (k : Nat) (a0 : ByteArray) (a1 : Int) : Option (Bool) := (pomaderef01_Partial.f k a0 a1).bind fun t162 => (if t162 = true then (pomaderef01_Whole.l0 k a0 a1 0) else (some false))
theorem pomaderef01_Whole.mono_l : ∀ k, (∀ y0 y1 y2, LeO (pomaderef01_Whole.l0 k y0 y1 y2) (pomaderef01_Whole.l0 (k + 1) y0 y1 y2))
  | 0 => fun _ _ _ r h => by simp [pomaderef01_Whole.l0] at h
  | k + 1 => by
    have ih0 := pomaderef01_Whole.mono_l k
    · intro y0 y1 y2
      unfold pomaderef01_Whole.l0
      repeat' first
      | (with_reducible exact ih0 _ _ _)
      | (with_reducible exact pomaderef01_Partial.mono _ _ _)
      | (with_reducible exact LeO.refl _)
      | (with_reducible exact LeO.none _)
      | (with_reducible refine LeO.ite ?_ ?_)
      | (with_reducible refine LeO.bind ?_ (fun _ => ?_))
      | exact ih0 _ _ _
      | exact pomaderef01_Partial.mono _ _ _
      | exact LeO.none _
      | refine LeO.ite ?_ ?_
      | refine LeO.bind ?_ (fun _ => ?_)
theorem pomaderef01_Whole.mono : ∀ a0 a1 k, LeO (pomaderef01_Whole.f k a0 a1) (pomaderef01_Whole.f (k + 1) a0 a1) := by
  intro a0 a1 k
  have ih0 := pomaderef01_Whole.mono_l k
  unfold pomaderef01_Whole.f
  repeat' first
      | (with_reducible exact ih0 _ _ _)
      | (with_reducible exact pomaderef01_Partial.mono _ _ _)
      | (with_reducible exact LeO.refl _)
      | (with_reducible exact LeO.none _)
      | (with_reducible refine LeO.ite ?_ ?_)
      | (with_reducible refine LeO.bind ?_ (fun _ => ?_))
      | exact ih0 _ _ _
      | exact pomaderef01_Partial.mono _ _ _
      | exact LeO.none _
      | refine LeO.ite ?_ ?_
      | refine LeO.bind ?_ (fun _ => ?_)
set_option maxHeartbeats 8000000 in
set_option maxRecDepth 100000 in
theorem pomaderef01_Whole.calls (k : Nat) (a0 : ByteArray) (a1 : Int) (r : Bool) (w : World) (h : pomaderef01_Whole.f k a0 a1 = some r) :
    Calls Tryd.prog 29 #[.string a0, .int .i64 a1] w fun e w' => e = .returned (.bool r) ∧ Drawn0 w w' := by
  have H : ((pomaderef01_Partial.f k a0 a1).bind fun t162 => (if t162 = true then (pomaderef01_Whole.l0 k a0 a1 0) else (some false))) = some r := h
  clear h
  replace H := Option.bind_eq_some_iff.mp H
  obtain ⟨t162, A30, H⟩ := H
  replace H : (if t162 = true then (pomaderef01_Whole.l0 k a0 a1 0) else (some false)) = some r := H
  have A3 := Aside0.mk A30
  clear A30
  by_cases c4 : t162 = true
  · subst c4
    have H1 : (pomaderef01_Whole.l0 k a0 a1 0) = some r := by rw [if_pos rfl] at H; exact H
    clear H
    have H := H1
    clear H1
    have H' := Aside0.mk H
    clear H
    go_enter Tryd.func29, Tryd.ntmps29
    go_wp2_with (first | ((with_reducible refine gate_callee (f := 62) rfl ?_); refine goesL_ (some 8) rfl rfl Tryd.func62 (by kernel_rfl) rfl #[.string a0, .int .i64 a1] rfl (by (try simp only [List.map_toArray, List.map_cons, List.map_nil]); first | done | rfl | (simp only [List.length_drop, List.length_take]; rfl)) ?_; (with_reducible refine (pomaderef01_Partial.calls k a0 a1 true _ A3.out).mono ?_); rintro e w' ⟨rfl, ⟨nd, rfl⟩⟩; refine ⟨_, rfl, ?_⟩))
    go_loopg [5] k (fun kq v5 w' => ∃ (x5_1 : Int), v5 = .int .i64 x5_1 ∧ Aside0 (pomaderef01_Whole.l0 kq a0 a1 x5_1 = some r) ∧ Aside0 (kq ≤ k) ∧ Drawn0 w w')
    case atStart => exact ⟨(0), (by first | rfl | (simp; done) | (simp [*]; done)), H', ⟨Nat.le_refl _⟩, by repeat (first | exact Drawn0.refl _ | apply Drawn0.step)⟩
    case round =>
      clear H'
      try clear c2
      try clear p2
      try clear c4
      obtain ⟨x5_1, rfl, HA, HK1, ⟨m1, rfl⟩⟩ := hrel
      cases gk with
      | zero => exact absurd HA.out (by simp [pomaderef01_Whole.l0])
      | succ k1 =>
        have H := HA.out
        clear HA
        simp only [pomaderef01_Whole.l0] at H
        by_cases c5 : x5_1 < a1
        · rw [if_pos c5] at H
          have c5b0 : decide (x5_1 < a1) = true := decide_eq_true c5
          clear c5
          by_cases c6 : 0 ≤ x5_1
          · rw [if_pos c6] at H
            have c6b0 : decide (0 ≤ x5_1) = true := decide_eq_true c6
            clear c6
            by_cases c7 : x5_1 < (a0.size : Int)
            · rw [if_pos c7] at H
              have c7b0 : decide (x5_1 < (a0.size : Int)) = true := decide_eq_true c7
              clear c7
              by_cases c9 : (bt a0 x5_1) = 63
              · rw [if_pos c9] at H
                have c9b0 : ((bt a0 x5_1) == 63) = true := beq_iff_eq.mpr c9
                have c9b1 : ((bt a0 x5_1) != 63) = false := bne_eq_false_iff_eq.mpr c9
                clear c9
                obtain rfl := Option.some.inj H
                have p8 : 0 ≤ (x5_1 : Int) := of_decide_eq_true (by first | (with_reducible assumption) | assumption)
                have q8 : x5_1 < (a0.size : Int) := of_decide_eq_true (by first | (with_reducible assumption) | assumption)
                have hx8 := bt_at a0 x5_1
                replace p8 := eq_true p8
                replace q8 := eq_true q8
                go_wp2
                go_ret
                exact ⟨by first | rfl | (simp; done) | (simp [*]; done), by repeat (first | exact Drawn0.refl _ | apply Drawn0.step)⟩
              · rw [if_neg c9] at H
                have c9b0 : ((bt a0 x5_1) == 63) = false := beq_eq_false_iff_ne.mpr c9
                have c9b1 : ((bt a0 x5_1) != 63) = true := bne_iff_ne.mpr c9
                have H' := Aside0.mk H
                clear H
                have p8 : 0 ≤ (x5_1 : Int) := of_decide_eq_true (by first | (with_reducible assumption) | assumption)
                have q8 : x5_1 < (a0.size : Int) := of_decide_eq_true (by first | (with_reducible assumption) | assumption)
                have hx8 := bt_at a0 x5_1
                replace p8 := eq_true p8
                replace q8 := eq_true q8
                go_wp2
                go_roundg k1
                case measure => have := HK1.out; omega
                case rel => exact ⟨(wrap64 (x5_1 + 1)), (by first | rfl | (simp; done) | (simp [*]; done)), H', ⟨by have := HK1.out; omega⟩, by repeat (first | exact Drawn0.refl _ | apply Drawn0.step)⟩
            · rw [if_neg c7] at H
              exact absurd H (by simp)
          · rw [if_neg c6] at H
            exact absurd H (by simp)
        · rw [if_neg c5] at H
          have c5b0 : decide (x5_1 < a1) = false := decide_eq_false c5
          clear c5
          obtain rfl := Option.some.inj H
          go_wp2
          go_ret
          exact ⟨by first | rfl | (simp; done) | (simp [*]; done), by repeat (first | exact Drawn0.refl _ | apply Drawn0.step)⟩
  · replace c4 := Bool.eq_false_iff.mpr c4
    subst c4
    have H1 : (some false) = some r := by rw [if_neg (show ¬ (false = true) by decide)] at H; exact H
    clear H
    have H := H1
    clear H1
    obtain rfl := Option.some.inj H
    go_enter Tryd.func29, Tryd.ntmps29
    go_wp2_with (first | ((with_reducible refine gate_callee (f := 62) rfl ?_); refine goesL_ (some 8) rfl rfl Tryd.func62 (by kernel_rfl) rfl #[.string a0, .int .i64 a1] rfl (by (try simp only [List.map_toArray, List.map_cons, List.map_nil]); first | done | rfl | (simp only [List.length_drop, List.length_take]; rfl)) ?_; (with_reducible refine (pomaderef01_Partial.calls k a0 a1 false _ A3.out).mono ?_); rintro e w' ⟨rfl, ⟨nd, rfl⟩⟩; refine ⟨_, rfl, ?_⟩))
    go_ret
    exact ⟨by first | rfl | (simp; done) | (simp [*]; done), by repeat (first | exact Drawn0.refl _ | apply Drawn0.step)⟩
def pomaderef01_Extends.l0 : Nat → ByteArray → ByteArray → Int → Option (Bool)
  | 0, _, _, _ => none
  | k + 1, x0, x1, x5 => if x5 < (x0.size : Int) then (if 0 ≤ x5 then (if x5 < (x1.size : Int) then (if (bt x1 x5) = 63 then (pomaderef01_Extends.l0 k x0 x1 (wrap64 (x5 + 1))) else (if (bt x0 x5) = (bt x1 x5) then (pomaderef01_Extends.l0 k x0 x1 (wrap64 (x5 + 1))) else (some false))) else (none)) else (none)) else (some true)
def pomaderef01_Extends.f (k : Nat) (a0 : ByteArray) (a1 : ByteArray) : Option (Bool) := if (a0.size : Int) = (a1.size : Int) then (pomaderef01_Extends.l0 k a0 a1 0) else (some false)
theorem pomaderef01_Extends.mono_l : ∀ k, (∀ y0 y1 y2, LeO (pomaderef01_Extends.l0 k y0 y1 y2) (pomaderef01_Extends.l0 (k + 1) y0 y1 y2))
  | 0 => fun _ _ _ r h => by simp [pomaderef01_Extends.l0] at h
  | k + 1 => by
    have ih0 := pomaderef01_Extends.mono_l k
    · intro y0 y1 y2
      unfold pomaderef01_Extends.l0
      repeat' first
      | (with_reducible exact ih0 _ _ _)
      | (with_reducible exact LeO.refl _)
      | (with_reducible exact LeO.none _)
      | (with_reducible refine LeO.ite ?_ ?_)
      | (with_reducible refine LeO.bind ?_ (fun _ => ?_))
      | exact ih0 _ _ _
      | exact LeO.none _
      | refine LeO.ite ?_ ?_
      | refine LeO.bind ?_ (fun _ => ?_)
theorem pomaderef01_Extends.mono : ∀ a0 a1 k, LeO (pomaderef01_Extends.f k a0 a1) (pomaderef01_Extends.f (k + 1) a0 a1) := by
  intro a0 a1 k
  have ih0 := pomaderef01_Extends.mono_l k
  unfold pomaderef01_Extends.f
  repeat' first
      | (with_reducible exact ih0 _ _ _)
      | (with_reducible exact LeO.refl _)
      | (with_reducible exact LeO.none _)
      | (with_reducible refine LeO.ite ?_ ?_)
      | (with_reducible refine LeO.bind ?_ (fun _ => ?_))
      | exact ih0 _ _ _
      | exact LeO.none _
      | refine LeO.ite ?_ ?_
      | refine LeO.bind ?_ (fun _ => ?_)
set_option maxHeartbeats 8000000 in
set_option maxRecDepth 100000 in
theorem pomaderef01_Extends.calls (k : Nat) (a0 : ByteArray) (a1 : ByteArray) (r : Bool) (w : World) (h : pomaderef01_Extends.f k a0 a1 = some r) :
    Calls Tryd.prog 37 #[.string a0, .string a1] w fun e w' => e = .returned (.bool r) ∧ Drawn0 w w' := by
  have H : (if (a0.size : Int) = (a1.size : Int) then (pomaderef01_Extends.l0 k a0 a1 0) else (some false)) = some r := h
  clear h
  by_cases c3 : (a0.size : Int) = (a1.size : Int)
  · rw [if_pos c3] at H
    have c3b0 : ((a0.size : Int) == (a1.size : Int)) = true := beq_iff_eq.mpr c3
    have c3b1 : ((a0.size : Int) != (a1.size : Int)) = false := bne_eq_false_iff_eq.mpr c3
    have c3b2 : (a0.size == a1.size) = true := by first | simpa using c3 | (simp at c3 ⊢; omega)
    clear c3
    have H' := Aside0.mk H
    clear H
    go_enter Tryd.func37, Tryd.ntmps37
    go_wp2
    repeat (go_quiet (fail); try go_wp2)
    go_loopg [5] k (fun kq v5 w' => ∃ (x5_1 : Int), v5 = .int .i64 x5_1 ∧ Aside0 (pomaderef01_Extends.l0 kq a0 a1 x5_1 = some r) ∧ Aside0 (kq ≤ k) ∧ Drawn0 w w')
    case atStart => exact ⟨(0), (by first | rfl | (simp; done) | (simp [*]; done)), H', ⟨Nat.le_refl _⟩, by repeat (first | exact Drawn0.refl _ | apply Drawn0.step)⟩
    case round =>
      clear H'
      try clear p2
      try clear c3
      try clear c3b0
      try clear c3b1
      try clear c3b2
      obtain ⟨x5_1, rfl, HA, HK1, ⟨m1, rfl⟩⟩ := hrel
      cases gk with
      | zero => exact absurd HA.out (by simp [pomaderef01_Extends.l0])
      | succ k1 =>
        have H := HA.out
        clear HA
        simp only [pomaderef01_Extends.l0] at H
        by_cases c4 : x5_1 < (a0.size : Int)
        · rw [if_pos c4] at H
          have c4b0 : decide (x5_1 < (a0.size : Int)) = true := decide_eq_true c4
          clear c4
          by_cases c5 : 0 ≤ x5_1
          · rw [if_pos c5] at H
            have c5b0 : decide (0 ≤ x5_1) = true := decide_eq_true c5
            clear c5
            by_cases c6 : x5_1 < (a1.size : Int)
            · rw [if_pos c6] at H
              have c6b0 : decide (x5_1 < (a1.size : Int)) = true := decide_eq_true c6
              clear c6
              by_cases c8 : (bt a1 x5_1) = 63
              · rw [if_pos c8] at H
                have c8b0 : ((bt a1 x5_1) == 63) = true := beq_iff_eq.mpr c8
                have c8b1 : ((bt a1 x5_1) != 63) = false := bne_eq_false_iff_eq.mpr c8
                clear c8
                have H' := Aside0.mk H
                clear H
                have p7 : 0 ≤ (x5_1 : Int) := of_decide_eq_true (by first | (with_reducible assumption) | assumption)
                have q7 : x5_1 < (a1.size : Int) := of_decide_eq_true (by first | (with_reducible assumption) | assumption)
                have hx7 := bt_at a1 x5_1
                replace p7 := eq_true p7
                replace q7 := eq_true q7
                go_wp2
                repeat (go_quiet (fail); try go_wp2)
                go_roundg k1
                case measure => have := HK1.out; omega
                case rel => exact ⟨(wrap64 (x5_1 + 1)), (by first | rfl | (simp; done) | (simp [*]; done)), H', ⟨by have := HK1.out; omega⟩, by repeat (first | exact Drawn0.refl _ | apply Drawn0.step)⟩
              · rw [if_neg c8] at H
                have c8b0 : ((bt a1 x5_1) == 63) = false := beq_eq_false_iff_ne.mpr c8
                have c8b1 : ((bt a1 x5_1) != 63) = true := bne_iff_ne.mpr c8
                by_cases c11 : (bt a0 x5_1) = (bt a1 x5_1)
                · rw [if_pos c11] at H
                  have c11b0 : ((bt a0 x5_1) == (bt a1 x5_1)) = true := beq_iff_eq.mpr c11
                  have c11b1 : ((bt a0 x5_1) != (bt a1 x5_1)) = false := bne_eq_false_iff_eq.mpr c11
                  clear c11
                  have H' := Aside0.mk H
                  clear H
                  have p7 : 0 ≤ (x5_1 : Int) := of_decide_eq_true (by first | (with_reducible assumption) | assumption)
                  have q7 : x5_1 < (a1.size : Int) := of_decide_eq_true (by first | (with_reducible assumption) | assumption)
                  have hx7 := bt_at a1 x5_1
                  replace p7 := eq_true p7
                  replace q7 := eq_true q7
                  have p9 : 0 ≤ (x5_1 : Int) := of_decide_eq_true (by first | (with_reducible assumption) | assumption)
                  have q9 : x5_1 < (a0.size : Int) := of_decide_eq_true (by first | (with_reducible assumption) | assumption)
                  have hx9 := bt_at a0 x5_1
                  replace p9 := eq_true p9
                  replace q9 := eq_true q9
                  have p10 : 0 ≤ (x5_1 : Int) := of_decide_eq_true (by first | (with_reducible assumption) | assumption)
                  have q10 : x5_1 < (a1.size : Int) := of_decide_eq_true (by first | (with_reducible assumption) | assumption)
                  have hx10 := bt_at a1 x5_1
                  replace p10 := eq_true p10
                  replace q10 := eq_true q10
                  go_wp2
                  repeat (go_quiet (fail); try go_wp2)
                  go_roundg k1
                  case measure => have := HK1.out; omega
                  case rel => exact ⟨(wrap64 (x5_1 + 1)), (by first | rfl | (simp; done) | (simp [*]; done)), H', ⟨by have := HK1.out; omega⟩, by repeat (first | exact Drawn0.refl _ | apply Drawn0.step)⟩
                · rw [if_neg c11] at H
                  have c11b0 : ((bt a0 x5_1) == (bt a1 x5_1)) = false := beq_eq_false_iff_ne.mpr c11
                  have c11b1 : ((bt a0 x5_1) != (bt a1 x5_1)) = true := bne_iff_ne.mpr c11
                  obtain rfl := Option.some.inj H
                  have p7 : 0 ≤ (x5_1 : Int) := of_decide_eq_true (by first | (with_reducible assumption) | assumption)
                  have q7 : x5_1 < (a1.size : Int) := of_decide_eq_true (by first | (with_reducible assumption) | assumption)
                  have hx7 := bt_at a1 x5_1
                  replace p7 := eq_true p7
                  replace q7 := eq_true q7
                  have p9 : 0 ≤ (x5_1 : Int) := of_decide_eq_true (by first | (with_reducible assumption) | assumption)
                  have q9 : x5_1 < (a0.size : Int) := of_decide_eq_true (by first | (with_reducible assumption) | assumption)
                  have hx9 := bt_at a0 x5_1
                  replace p9 := eq_true p9
                  replace q9 := eq_true q9
                  have p10 : 0 ≤ (x5_1 : Int) := of_decide_eq_true (by first | (with_reducible assumption) | assumption)
                  have q10 : x5_1 < (a1.size : Int) := of_decide_eq_true (by first | (with_reducible assumption) | assumption)
                  have hx10 := bt_at a1 x5_1
                  replace p10 := eq_true p10
                  replace q10 := eq_true q10
                  go_wp2
                  repeat (go_quiet (fail); try go_wp2)
                  go_ret
                  exact ⟨by first | rfl | (simp; done) | (simp [*]; done), by repeat (first | exact Drawn0.refl _ | apply Drawn0.step)⟩
            · rw [if_neg c6] at H
              exact absurd H (by simp)
          · rw [if_neg c5] at H
            exact absurd H (by simp)
        · rw [if_neg c4] at H
          have c4b0 : decide (x5_1 < (a0.size : Int)) = false := decide_eq_false c4
          clear c4
          obtain rfl := Option.some.inj H
          go_wp2
          repeat (go_quiet (fail); try go_wp2)
          go_ret
          exact ⟨by first | rfl | (simp; done) | (simp [*]; done), by repeat (first | exact Drawn0.refl _ | apply Drawn0.step)⟩
  · rw [if_neg c3] at H
    have c3b0 : ((a0.size : Int) == (a1.size : Int)) = false := beq_eq_false_iff_ne.mpr c3
    have c3b1 : ((a0.size : Int) != (a1.size : Int)) = true := bne_iff_ne.mpr c3
    have c3b2 : (a0.size == a1.size) = false := by first | simpa using c3 | (simp at c3 ⊢; omega)
    obtain rfl := Option.some.inj H
    go_enter Tryd.func37, Tryd.ntmps37
    go_wp2
    repeat (go_quiet (fail); try go_wp2)
    go_ret
    exact ⟨by first | rfl | (simp; done) | (simp [*]; done), by repeat (first | exact Drawn0.refl _ | apply Drawn0.step)⟩
def pomaderef01_number.l0 : Nat → ByteArray → Int → Int → Option (Int)
  | 0, _, _, _ => none
  | k + 1, x0, x3, x4 => if x4 < (x0.size : Int) then (if 0 ≤ x4 then (pomaderef01_number.l0 k x0 (wrap64 ((wrap64 (2 * x3)) + (((bt x0 x4) - 48) % 256))) (wrap64 (x4 + 1))) else (none)) else (some x3)
def pomaderef01_number.f (k : Nat) (a0 : ByteArray) : Option (Int) := pomaderef01_number.l0 k a0 0 0
theorem pomaderef01_number.mono_l : ∀ k, (∀ y0 y1 y2, LeO (pomaderef01_number.l0 k y0 y1 y2) (pomaderef01_number.l0 (k + 1) y0 y1 y2))
  | 0 => fun _ _ _ r h => by simp [pomaderef01_number.l0] at h
  | k + 1 => by
    have ih0 := pomaderef01_number.mono_l k
    · intro y0 y1 y2
      unfold pomaderef01_number.l0
      repeat' first
      | (with_reducible exact ih0 _ _ _)
      | (with_reducible exact LeO.refl _)
      | (with_reducible exact LeO.none _)
      | (with_reducible refine LeO.ite ?_ ?_)
      | (with_reducible refine LeO.bind ?_ (fun _ => ?_))
      | exact ih0 _ _ _
      | exact LeO.none _
      | refine LeO.ite ?_ ?_
      | refine LeO.bind ?_ (fun _ => ?_)
theorem pomaderef01_number.mono : ∀ a0 k, LeO (pomaderef01_number.f k a0) (pomaderef01_number.f (k + 1) a0) := by
  intro a0 k
  have ih0 := pomaderef01_number.mono_l k
  unfold pomaderef01_number.f
  repeat' first
      | (with_reducible exact ih0 _ _ _)
      | (with_reducible exact LeO.refl _)
      | (with_reducible exact LeO.none _)
      | (with_reducible refine LeO.ite ?_ ?_)
      | (with_reducible refine LeO.bind ?_ (fun _ => ?_))
      | exact ih0 _ _ _
      | exact LeO.none _
      | refine LeO.ite ?_ ?_
      | refine LeO.bind ?_ (fun _ => ?_)
set_option maxHeartbeats 8000000 in
set_option maxRecDepth 100000 in
theorem pomaderef01_number.calls (k : Nat) (a0 : ByteArray) (r : Int) (w : World) (h : pomaderef01_number.f k a0 = some r) :
    Calls Tryd.prog 71 #[.string a0] w fun e w' => e = .returned (.int .i64 r) ∧ Drawn0 w w' := by
  have H : (pomaderef01_number.l0 k a0 0 0) = some r := h
  clear h
  have H' := Aside0.mk H
  clear H
  go_enter Tryd.func71, Tryd.ntmps71
  go_wp2
  go_loopg [3, 4] k (fun kq v3 v4 w' => ∃ (x3_1 : Int) (x4_1 : Int), v3 = .int .i64 x3_1 ∧ v4 = .int .i64 x4_1 ∧ Aside0 (pomaderef01_number.l0 kq a0 x3_1 x4_1 = some r) ∧ Aside0 (kq ≤ k) ∧ Drawn0 w w')
  case atStart => exact ⟨(0), (0), (by first | rfl | (simp; done) | (simp [*]; done)), (by first | rfl | (simp; done) | (simp [*]; done)), H', ⟨Nat.le_refl _⟩, by repeat (first | exact Drawn0.refl _ | apply Drawn0.step)⟩
  case round =>
    clear H'
    obtain ⟨x3_1, x4_1, rfl, rfl, HA, HK1, ⟨m1, rfl⟩⟩ := hrel
    cases gk with
    | zero => exact absurd HA.out (by simp [pomaderef01_number.l0])
    | succ k1 =>
      have H := HA.out
      clear HA
      simp only [pomaderef01_number.l0] at H
      by_cases c2 : x4_1 < (a0.size : Int)
      · rw [if_pos c2] at H
        have c2b0 : decide (x4_1 < (a0.size : Int)) = true := decide_eq_true c2
        clear c2
        by_cases c3 : 0 ≤ x4_1
        · rw [if_pos c3] at H
          have c3b0 : decide (0 ≤ x4_1) = true := decide_eq_true c3
          clear c3
          have H' := Aside0.mk H
          clear H
          have p4 : 0 ≤ (x4_1 : Int) := of_decide_eq_true (by first | (with_reducible assumption) | assumption)
          have q4 : x4_1 < (a0.size : Int) := of_decide_eq_true (by first | (with_reducible assumption) | assumption)
          have hx4 := bt_at a0 x4_1
          replace p4 := eq_true p4
          replace q4 := eq_true q4
          go_wp2
          go_roundg k1
          case measure => have := HK1.out; omega
          case rel => exact ⟨(wrap64 ((wrap64 (2 * x3_1)) + (((bt a0 x4_1) - 48) % 256))), (wrap64 (x4_1 + 1)), (by first | rfl | (simp; done) | (simp [*]; done)), (by first | rfl | (simp; done) | (simp [*]; done)), H', ⟨by have := HK1.out; omega⟩, by repeat (first | exact Drawn0.refl _ | apply Drawn0.step)⟩
        · rw [if_neg c3] at H
          exact absurd H (by simp)
      · rw [if_neg c2] at H
        have c2b0 : decide (x4_1 < (a0.size : Int)) = false := decide_eq_false c2
        clear c2
        obtain rfl := Option.some.inj H
        go_wp2
        go_ret
        exact ⟨by first | rfl | (simp; done) | (simp [*]; done), by repeat (first | exact Drawn0.refl _ | apply Drawn0.step)⟩
def truth_compatible.l0 : Nat → ByteArray → ByteArray → Int → Int → Option (Bool)
  | 0, _, _, _, _ => none
  | k + 1, x0, x1, x7, x8 => if x8 < x7 then (if 0 ≤ x8 then (if x8 < (x0.size : Int) then (if x8 < (x1.size : Int) then (if (bt x0 x8) = (bt x1 x8) then (truth_compatible.l0 k x0 x1 x7 (wrap64 (x8 + 1))) else (if (bt x0 x8) = 63 then (truth_compatible.l0 k x0 x1 x7 (wrap64 (x8 + 1))) else (if (bt x1 x8) = 63 then (truth_compatible.l0 k x0 x1 x7 (wrap64 (x8 + 1))) else (some false)))) else (none)) else (none)) else (none)) else (some true)
def truth_compatible.f (k : Nat) (a0 : ByteArray) (a1 : ByteArray) : Option (Bool) := truth_compatible.l0 k a0 a1 (a0.size : Int) 0
theorem truth_compatible.mono_l : ∀ k, (∀ y0 y1 y2 y3, LeO (truth_compatible.l0 k y0 y1 y2 y3) (truth_compatible.l0 (k + 1) y0 y1 y2 y3))
  | 0 => fun _ _ _ _ r h => by simp [truth_compatible.l0] at h
  | k + 1 => by
    have ih0 := truth_compatible.mono_l k
    · intro y0 y1 y2 y3
      unfold truth_compatible.l0
      repeat' first
      | (with_reducible exact ih0 _ _ _ _)
      | (with_reducible exact LeO.refl _)
      | (with_reducible exact LeO.none _)
      | (with_reducible refine LeO.ite ?_ ?_)
      | (with_reducible refine LeO.bind ?_ (fun _ => ?_))
      | exact ih0 _ _ _ _
      | exact LeO.none _
      | refine LeO.ite ?_ ?_
      | refine LeO.bind ?_ (fun _ => ?_)
theorem truth_compatible.mono : ∀ a0 a1 k, LeO (truth_compatible.f k a0 a1) (truth_compatible.f (k + 1) a0 a1) := by
  intro a0 a1 k
  have ih0 := truth_compatible.mono_l k
  unfold truth_compatible.f
  repeat' first
      | (with_reducible exact ih0 _ _ _ _)
      | (with_reducible exact LeO.refl _)
      | (with_reducible exact LeO.none _)
      | (with_reducible refine LeO.ite ?_ ?_)
      | (with_reducible refine LeO.bind ?_ (fun _ => ?_))
      | exact ih0 _ _ _ _
      | exact LeO.none _
      | refine LeO.ite ?_ ?_
      | refine LeO.bind ?_ (fun _ => ?_)
set_option maxHeartbeats 8000000 in
set_option maxRecDepth 100000 in
theorem truth_compatible.calls (k : Nat) (a0 : ByteArray) (a1 : ByteArray) (r : Bool) (w : World) (h : truth_compatible.f k a0 a1 = some r) :
    Calls Tryd.prog 75 #[.string a0, .string a1] w fun e w' => e = .returned (.bool r) ∧ Drawn0 w w' := by
  have H : (truth_compatible.l0 k a0 a1 (a0.size : Int) 0) = some r := h
  clear h
  have H' := Aside0.mk H
  clear H
  go_enter Tryd.func75, Tryd.ntmps75
  go_wp2
  repeat (go_quiet (fail); try go_wp2)
  go_loopg [8] k (fun kq v8 w' => ∃ (x8_1 : Int), v8 = .int .i64 x8_1 ∧ Aside0 (truth_compatible.l0 kq a0 a1 (a0.size : Int) x8_1 = some r) ∧ Aside0 (kq ≤ k) ∧ Drawn0 w w')
  case atStart => exact ⟨(0), (by first | rfl | (simp; done) | (simp [*]; done)), H', ⟨Nat.le_refl _⟩, by repeat (first | exact Drawn0.refl _ | apply Drawn0.step)⟩
  case round =>
    clear H'
    try clear p2
    obtain ⟨x8_1, rfl, HA, HK1, ⟨m1, rfl⟩⟩ := hrel
    cases gk with
    | zero => exact absurd HA.out (by simp [truth_compatible.l0])
    | succ k1 =>
      have H := HA.out
      clear HA
      simp only [truth_compatible.l0] at H
      by_cases c3 : x8_1 < (a0.size : Int)
      · rw [if_pos c3] at H
        have c3b0 : decide (x8_1 < (a0.size : Int)) = true := decide_eq_true c3
        clear c3
        by_cases c4 : 0 ≤ x8_1
        · rw [if_pos c4] at H
          have c4b0 : decide (0 ≤ x8_1) = true := decide_eq_true c4
          clear c4
          by_cases c5 : x8_1 < (a0.size : Int)
          · rw [if_pos c5] at H
            have c5b0 : decide (x8_1 < (a0.size : Int)) = true := decide_eq_true c5
            clear c5
            by_cases c7 : x8_1 < (a1.size : Int)
            · rw [if_pos c7] at H
              have c7b0 : decide (x8_1 < (a1.size : Int)) = true := decide_eq_true c7
              clear c7
              by_cases c9 : (bt a0 x8_1) = (bt a1 x8_1)
              · rw [if_pos c9] at H
                have c9b0 : ((bt a0 x8_1) == (bt a1 x8_1)) = true := beq_iff_eq.mpr c9
                have c9b1 : ((bt a0 x8_1) != (bt a1 x8_1)) = false := bne_eq_false_iff_eq.mpr c9
                clear c9
                have H' := Aside0.mk H
                clear H
                have p6 : 0 ≤ (x8_1 : Int) := of_decide_eq_true (by first | (with_reducible assumption) | assumption)
                have q6 : x8_1 < (a0.size : Int) := of_decide_eq_true (by first | (with_reducible assumption) | assumption)
                have hx6 := bt_at a0 x8_1
                replace p6 := eq_true p6
                replace q6 := eq_true q6
                have p8 : 0 ≤ (x8_1 : Int) := of_decide_eq_true (by first | (with_reducible assumption) | assumption)
                have q8 : x8_1 < (a1.size : Int) := of_decide_eq_true (by first | (with_reducible assumption) | assumption)
                have hx8 := bt_at a1 x8_1
                replace p8 := eq_true p8
                replace q8 := eq_true q8
                go_wp2
                repeat (go_quiet (fail); try go_wp2)
                go_roundg k1
                case measure => have := HK1.out; omega
                case rel => exact ⟨(wrap64 (x8_1 + 1)), (by first | rfl | (simp; done) | (simp [*]; done)), H', ⟨by have := HK1.out; omega⟩, by repeat (first | exact Drawn0.refl _ | apply Drawn0.step)⟩
              · rw [if_neg c9] at H
                have c9b0 : ((bt a0 x8_1) == (bt a1 x8_1)) = false := beq_eq_false_iff_ne.mpr c9
                have c9b1 : ((bt a0 x8_1) != (bt a1 x8_1)) = true := bne_iff_ne.mpr c9
                by_cases c11 : (bt a0 x8_1) = 63
                · rw [if_pos c11] at H
                  have c11b0 : ((bt a0 x8_1) == 63) = true := beq_iff_eq.mpr c11
                  have c11b1 : ((bt a0 x8_1) != 63) = false := bne_eq_false_iff_eq.mpr c11
                  clear c11
                  have H' := Aside0.mk H
                  clear H
                  have p6 : 0 ≤ (x8_1 : Int) := of_decide_eq_true (by first | (with_reducible assumption) | assumption)
                  have q6 : x8_1 < (a0.size : Int) := of_decide_eq_true (by first | (with_reducible assumption) | assumption)
                  have hx6 := bt_at a0 x8_1
                  replace p6 := eq_true p6
                  replace q6 := eq_true q6
                  have p8 : 0 ≤ (x8_1 : Int) := of_decide_eq_true (by first | (with_reducible assumption) | assumption)
                  have q8 : x8_1 < (a1.size : Int) := of_decide_eq_true (by first | (with_reducible assumption) | assumption)
                  have hx8 := bt_at a1 x8_1
                  replace p8 := eq_true p8
                  replace q8 := eq_true q8
                  have p10 : 0 ≤ (x8_1 : Int) := of_decide_eq_true (by first | (with_reducible assumption) | assumption)
                  have q10 : x8_1 < (a0.size : Int) := of_decide_eq_true (by first | (with_reducible assumption) | assumption)
                  have hx10 := bt_at a0 x8_1
                  replace p10 := eq_true p10
                  replace q10 := eq_true q10
                  go_wp2
                  repeat (go_quiet (fail); try go_wp2)
                  go_roundg k1
                  case measure => have := HK1.out; omega
                  case rel => exact ⟨(wrap64 (x8_1 + 1)), (by first | rfl | (simp; done) | (simp [*]; done)), H', ⟨by have := HK1.out; omega⟩, by repeat (first | exact Drawn0.refl _ | apply Drawn0.step)⟩
                · rw [if_neg c11] at H
                  have c11b0 : ((bt a0 x8_1) == 63) = false := beq_eq_false_iff_ne.mpr c11
                  have c11b1 : ((bt a0 x8_1) != 63) = true := bne_iff_ne.mpr c11
                  by_cases c13 : (bt a1 x8_1) = 63
                  · rw [if_pos c13] at H
                    have c13b0 : ((bt a1 x8_1) == 63) = true := beq_iff_eq.mpr c13
                    have c13b1 : ((bt a1 x8_1) != 63) = false := bne_eq_false_iff_eq.mpr c13
                    clear c13
                    have H' := Aside0.mk H
                    clear H
                    have p6 : 0 ≤ (x8_1 : Int) := of_decide_eq_true (by first | (with_reducible assumption) | assumption)
                    have q6 : x8_1 < (a0.size : Int) := of_decide_eq_true (by first | (with_reducible assumption) | assumption)
                    have hx6 := bt_at a0 x8_1
                    replace p6 := eq_true p6
                    replace q6 := eq_true q6
                    have p8 : 0 ≤ (x8_1 : Int) := of_decide_eq_true (by first | (with_reducible assumption) | assumption)
                    have q8 : x8_1 < (a1.size : Int) := of_decide_eq_true (by first | (with_reducible assumption) | assumption)
                    have hx8 := bt_at a1 x8_1
                    replace p8 := eq_true p8
                    replace q8 := eq_true q8
                    have p10 : 0 ≤ (x8_1 : Int) := of_decide_eq_true (by first | (with_reducible assumption) | assumption)
                    have q10 : x8_1 < (a0.size : Int) := of_decide_eq_true (by first | (with_reducible assumption) | assumption)
                    have hx10 := bt_at a0 x8_1
                    replace p10 := eq_true p10
                    replace q10 := eq_true q10
                    have p12 : 0 ≤ (x8_1 : Int) := of_decide_eq_true (by first | (with_reducible assumption) | assumption)
                    have q12 : x8_1 < (a1.size : Int) := of_decide_eq_true (by first | (with_reducible assumption) | assumption)
                    have hx12 := bt_at a1 x8_1
                    replace p12 := eq_true p12
                    replace q12 := eq_true q12
                    go_wp2
                    repeat (go_quiet (fail); try go_wp2)
                    go_roundg k1
                    case measure => have := HK1.out; omega
                    case rel => exact ⟨(wrap64 (x8_1 + 1)), (by first | rfl | (simp; done) | (simp [*]; done)), H', ⟨by have := HK1.out; omega⟩, by repeat (first | exact Drawn0.refl _ | apply Drawn0.step)⟩
                  · rw [if_neg c13] at H
                    have c13b0 : ((bt a1 x8_1) == 63) = false := beq_eq_false_iff_ne.mpr c13
                    have c13b1 : ((bt a1 x8_1) != 63) = true := bne_iff_ne.mpr c13
                    obtain rfl := Option.some.inj H
                    have p6 : 0 ≤ (x8_1 : Int) := of_decide_eq_true (by first | (with_reducible assumption) | assumption)
                    have q6 : x8_1 < (a0.size : Int) := of_decide_eq_true (by first | (with_reducible assumption) | assumption)
                    have hx6 := bt_at a0 x8_1
                    replace p6 := eq_true p6
                    replace q6 := eq_true q6
                    have p8 : 0 ≤ (x8_1 : Int) := of_decide_eq_true (by first | (with_reducible assumption) | assumption)
                    have q8 : x8_1 < (a1.size : Int) := of_decide_eq_true (by first | (with_reducible assumption) | assumption)
                    have hx8 := bt_at a1 x8_1
                    replace p8 := eq_true p8
                    replace q8 := eq_true q8
                    have p10 : 0 ≤ (x8_1 : Int) := of_decide_eq_true (by first | (with_reducible assumption) | assumption)
                    have q10 : x8_1 < (a0.size : Int) := of_decide_eq_true (by first | (with_reducible assumption) | assumption)
                    have hx10 := bt_at a0 x8_1
                    replace p10 := eq_true p10
                    replace q10 := eq_true q10
                    have p12 : 0 ≤ (x8_1 : Int) := of_decide_eq_true (by first | (with_reducible assumption) | assumption)
                    have q12 : x8_1 < (a1.size : Int) := of_decide_eq_true (by first | (with_reducible assumption) | assumption)
                    have hx12 := bt_at a1 x8_1
                    replace p12 := eq_true p12
                    replace q12 := eq_true q12
                    go_wp2
                    repeat (go_quiet (fail); try go_wp2)
                    go_ret
                    exact ⟨by first | rfl | (simp; done) | (simp [*]; done), by repeat (first | exact Drawn0.refl _ | apply Drawn0.step)⟩
            · rw [if_neg c7] at H
              exact absurd H (by simp)
          · rw [if_neg c5] at H
            exact absurd H (by simp)
        · rw [if_neg c4] at H
          exact absurd H (by simp)
      · rw [if_neg c3] at H
        have c3b0 : decide (x8_1 < (a0.size : Int)) = false := decide_eq_false c3
        clear c3
        obtain rfl := Option.some.inj H
        go_wp2
        repeat (go_quiet (fail); try go_wp2)
        go_ret
        exact ⟨by first | rfl | (simp; done) | (simp [*]; done), by repeat (first | exact Drawn0.refl _ | apply Drawn0.step)⟩
end Go.Proofs.YtijaefmaceolbaaDoor.Im

namespace Go.Proofs.YtijaefmaceolbaaDoor.Im
open Go.RowKit Go.Proofs.YtijaefmaceolbaaDoorW.PrintWords Go.Proofs.YtijaefmaceolbaaDoorW.PrintLast Go.Proofs.YtijaefmaceolbaaDoorW.PrintMore Go.Proofs.YtijaefmaceolbaaDoor.Tr
set_option linter.unusedVariables false
set_option linter.unusedSimpArgs false
theorem rd_ndF (fs : List Fm) (i : Nat) (h : i < fs.length) : rd_TNd (fs.map ndF) (i : Int) = ndF (fs.getD i (.con false)) := by
  simp [rd_TNd, h]
end Go.Proofs.YtijaefmaceolbaaDoor.Im

namespace Go.Proofs.YtijaefmaceolbaaDoor.Im
open Go.RowKit Go.Proofs.YtijaefmaceolbaaDoorW.PrintWords Go.Proofs.YtijaefmaceolbaaDoorW.PrintLast Go.Proofs.YtijaefmaceolbaaDoorW.PrintMore Go.Proofs.YtijaefmaceolbaaDoor.Tr
set_option linter.unusedVariables false
set_option linter.unusedSimpArgs false
def RdGood (n : Nat) (fs : List Fm) (w : World) (e : Ending) (w' : World) : Prop :=
  ∃ A c, n ≤ c ∧ e = .returned (.tuple #[.slice A n c, .int .i64 0]) ∧ Kd.C kNd w' A n (fs.map ndF) ∧ Below w.heap.size w w'
theorem rread_good {l : List (List UInt8)} (h : sysE l = 0) (w : World) (A : Option Addr) (c : Nat) (hr : Kd.C Kd.string w A l.length (l.map strL)) :
    Calls Tryd.prog 52 #[.slice A l.length c] w (RdGood l.length (sysF l) w) :=
  (rread_any l w A c hr).mono fun e w' ⟨v, h1, h2, h3, _⟩ => by
    obtain ⟨A1, c1, rfl, hl, hC⟩ := Kd.R_reads (h3 h)
    have e1 : ((sysF l).map ndF).length = l.length := by rw [List.length_map, sysF_len]
    rw [e1] at hl hC h1
    exact ⟨A1, c1, hl, by rw [h1, h], hC, h2⟩
set_option maxHeartbeats 800000 in
set_option maxRecDepth 100000 in
theorem rsystem_call (l : List (List UInt8)) (w : World) (A : Option Addr) (c : Nat) (hr : Kd.C Kd.string w A l.length (l.map strL)) :
    Calls Tryd.prog 27 #[.slice A l.length c] w fun e w' => e = .returned (.int .i64 (sysE l)) ∧ Below w.heap.size w w' := by
  have HR := Aside0.mk ((rread_any l w A c hr).mono (R' := fun e w' => ∃ v, e = .returned (.tuple #[v, .int .i64 (sysE l)]) ∧ Below w.heap.size w w') (fun e w' ⟨v, h1, h2, _, _⟩ => ⟨v, h1, h2⟩))
  clear hr
  generalize sysE l = x at *
  generalize l.length = n at *
  go_enter Tryd.func27, Tryd.ntmps27
  go_wp2_with fail
  refine HR.out.mono ?_
  rintro e w1 ⟨v, rfl, hb⟩
  have HB := Aside0.mk hb
  clear hb
  go_wp2_with fail
  go_ret
  exact ⟨rfl, HB.out⟩
end Go.Proofs.YtijaefmaceolbaaDoor.Im

namespace Go.Proofs.YtijaefmaceolbaaDoor.Im
open Go.RowKit Go.Proofs.YtijaefmaceolbaaDoorW.PrintWords Go.Proofs.YtijaefmaceolbaaDoorW.PrintLast Go.Proofs.YtijaefmaceolbaaDoorW.PrintMore Go.Proofs.YtijaefmaceolbaaDoor.Tr
set_option linter.unusedVariables false
set_option linter.unusedSimpArgs false
theorem strs_of (l : List ByteArray) : ∃ L : List (List UInt8), l = L.map strL := ⟨l.map fun s => s.data.toList, by
  rw [List.map_map]
  exact (List.map_id _).symm.trans (List.map_congr_left fun s _ => by simp [strL])⟩
end Go.Proofs.YtijaefmaceolbaaDoor.Im
namespace Go.Proofs.YtijaefmaceolbaaDoor.Im
open Go.RowKit Go.Proofs.YtijaefmaceolbaaDoorW.PrintWords Go.Proofs.YtijaefmaceolbaaDoorW.PrintLast Go.Proofs.YtijaefmaceolbaaDoorW.PrintMore Go.Proofs.YtijaefmaceolbaaDoor.Tr
end Go.Proofs.YtijaefmaceolbaaDoor.Im

namespace Go.Proofs.YtijaefmaceolbaaDoor.Im
open Go.RowKit Go.Proofs.YtijaefmaceolbaaDoorW.PrintWords Go.Proofs.YtijaefmaceolbaaDoorW.PrintLast Go.Proofs.YtijaefmaceolbaaDoorW.PrintMore Go.Proofs.YtijaefmaceolbaaDoor.Tr
set_option linter.unusedVariables false
set_option linter.unusedSimpArgs false
def conL (n : Nat) (fs : List Fm) : List (List T3) := (valsB base2 n).filter (fixB fs)
theorem mem_conL {n : Nat} {fs : List Fm} (S : Tr.Sys n fs) {v : List T3} : v ∈ conL n fs ↔ isFix fs v ∧ totV v := by
  unfold conL
  rw [List.mem_filter, mem_valsB]
  constructor
  · rintro ⟨⟨h1, h2⟩, h3⟩
    refine ⟨of_decide_eq_true h3, fun x hx e => ?_⟩
    have := h2 x hx
    rw [e] at this
    exact absurd this (by decide)
  · rintro ⟨h1, h2⟩
    refine ⟨⟨by rw [h1.len, S.len], fun x hx => ?_⟩, decide_eq_true h1⟩
    have := h2 x hx
    rcases x with _ | (_ | _)
    · exact absurd rfl this
    · decide
    · decide
end Go.Proofs.YtijaefmaceolbaaDoor.Im

namespace Go.Proofs.YtijaefmaceolbaaDoor.Im
open Go.RowKit Go.Proofs.YtijaefmaceolbaaDoorW.PrintWords Go.Proofs.YtijaefmaceolbaaDoorW.PrintLast Go.Proofs.YtijaefmaceolbaaDoorW.PrintMore Go.Proofs.YtijaefmaceolbaaDoor.Tr
set_option linter.unusedVariables false
set_option linter.unusedSimpArgs false
def cdS (s : Bool × Bool) : Int := (if s.1 then 1 else 0) + (if s.2 then 2 else 0)
def cdL (m : Nat) (z : Sg) : List Int := (List.range m).map fun j => cdS (z j)
def cdA (m : Nat) (z : Sg) : Array Value := ((cdL m z).map (Value.int .i64)).toArray
theorem cdA_get (m : Nat) (z : Sg) (i : Nat) (h : i < m) : (cdA m z)[i]? = some (.int .i64 (cdS (z i))) := by simp [cdA, cdL, h]
theorem or1 (a b : Bool) : bits .or .i64 (cdS (a, b)) 1 = cdS (true, b) := by cases a <;> cases b <;> decide
theorem or2 (a b : Bool) : bits .or .i64 (cdS (a, b)) 2 = cdS (a, true) := by cases a <;> cases b <;> decide
theorem cdA_set (m : Nat) (z : Sg) (i : Nat) (s : Bool × Bool) : (cdA m z).setIfInBounds i (.int .i64 (cdS s)) = cdA m (fun j => if j = i then s else z j) := by
  apply Array.ext_getElem?
  intro j
  rw [Array.getElem?_setIfInBounds]
  by_cases hj : j < m
  · by_cases h : i = j
    · subst h
      rw [if_pos rfl, if_pos (by simpa [cdA, cdL] using hj), cdA_get _ _ _ hj, if_pos rfl]
    · rw [if_neg h, cdA_get _ _ _ hj, cdA_get _ _ _ hj, if_neg (fun e => h e.symm)]
  · have h1 : (cdA m (fun j => if j = i then s else z j))[j]? = none := by simp [cdA, cdL]; omega
    have h2 : (cdA m z)[j]? = none := by simp [cdA, cdL]; omega
    rw [h1]
    split
    · rename_i h
      subst h
      rw [if_neg (by simp [cdA, cdL]; omega)]
    · exact h2
def SgP (w : World) (g m : Nat) (z : Sg) (e : Ending) (w' : World) : Prop := e = .returned (.tuple #[]) ∧ Blk w' g 3 (cdA m z) ∧ Keep (fun i => i ≠ g) w w'
structure Old (w0 w : World) : Prop where
  size : w0.heap.size ≤ w.heap.size
  block : ∀ k, k < w0.heap.size → w.heap[k]? = w0.heap[k]?
theorem Old.keep {w0 w w' : World} {g : Nat} (h : Old w0 w) (k : Keep (fun i => i ≠ g) w w') (hg : w0.heap.size ≤ g) : Old w0 w' :=
  ⟨Nat.le_trans h.size k.size, fun i hi => (k.block i (Nat.lt_of_lt_of_le hi h.size) (by omega)).trans (h.block i hi)⟩
theorem Old.cell {w0 w : World} (h : Old w0 w) {a : Addr} {v : Value} (hc : w0.cell? a = some v) : w.cell? a = some v := Kd.cell_heap h.block hc
theorem addS_at (z : Sg) (i : Nat) (odd both a b : Bool) (hz : z i = (a, b)) : addS z i odd both = fun j => if j = i then (a || (!odd || both), b || (odd || both)) else z j := by
  funext j
  show (if j = i then _ else _) = _
  by_cases h : j = i
  · subst h; rw [if_pos rfl, if_pos rfl, hz]
  · rw [if_neg h, if_neg h]
theorem fin_idem {W : World} {g m i : Nat} {z : Sg} {s t : Bool × Bool} {o : Obj} (h : Blk W g 3 (cdA m fun j => if j = i then t else if j = i then s else z j)) : Blk (W.alloc o) g 3 (cdA m fun j => if j = i then t else z j) := by
  have e : (fun j => if j = i then t else if j = i then s else z j) = fun j => if j = i then t else z j := by
    funext j
    by_cases hj : j = i
    · rw [if_pos hj, if_pos hj]
    · rw [if_neg hj, if_neg hj, if_neg hj]
  rw [e] at h
  exact h.alloc o
set_option maxHeartbeats 1600000 in
set_option maxRecDepth 100000 in
theorem signs_lt (w : World) (g m i : Nat) (hm : m ≤ 10) (hi : i < m) (odd both : Bool) (z : Sg) (A : Option Addr) (c : Nat) (h : Blk w g 3 (cdA m z)) :
    Calls Tryd.prog 69 #[.agg #[.int .u8 (97 + (i : Int)), .slice A 0 c], .bool odd, .bool both, .slice (some ⟨g, 0, none⟩) m m] w (SgP w g m (addS z i odd both)) := by
  have hlt := h.lt
  have i0 : (0 : Int) ≤ (i : Int) := by omega
  have i1 : (i : Int) < (m : Int) := by omega
  obtain ⟨x, hx⟩ : ∃ x : Int, 97 + (i : Int) = x := ⟨_, rfl⟩
  rw [hx]
  have d97 : decide (97 ≤ x) = true := decide_eq_true (by omega)
  have d122 : decide (x ≤ 122) = true := decide_eq_true (by omega)
  have hsub : x - 97 = (i : Int) := by omega
  have hmod : (i : Int) % 256 = (i : Int) := by omega
  obtain ⟨a, b, hz⟩ : ∃ a b, z i = (a, b) := ⟨_, _, rfl⟩
  have HZ := Aside0.mk (addS_at z i odd both a b hz)
  have q1 := or1 a b
  have q2 := or2 a b
  have q3 := or2 true b
  have cg : w.cell? ⟨g, i, none⟩ = some (.int .i64 (cdS (a, b))) := by rw [h.cell, cdA_get m z i hi, hz]
  have fg := h.frozen i
  have H1 := Aside0.mk (h.set_ i (.int .i64 (cdS (true, b))))
  have H2 := Aside0.mk (h.set_ i (.int .i64 (cdS (a, true))))
  rw [cdA_set] at H1 H2
  have H3 := Aside0.mk (H1.out.set_ i (.int .i64 (cdS (true, true))))
  rw [cdA_set] at H3
  have HK1 := Aside0.mk (fun v => (Keep.refl (fun j => j ≠ g) w).set_ g i v (fun _ hp => hp rfl))
  clear h hz hx
  rw [HZ.out]
  cases odd <;> cases both
  all_goals
    go_enter Tryd.func69, Tryd.ntmps69
    go_wp2_with fail
    go_end0
    refine ⟨rfl, ?_, ?_⟩
  · simp only [Bool.not_false, Bool.true_or, Bool.or_true, Bool.or_false]
    exact H1.out.alloc _
  · exact (HK1.out _).trans (Keep.of_below (below_alloc (Below.refl _ _) _))
  · simp only [Bool.not_false, Bool.true_or, Bool.or_true, Bool.or_false]
    exact fin_idem H3.out
  · exact ((HK1.out _).set_ g i _ (fun _ hp => hp rfl)).trans (Keep.of_below (below_alloc (Below.refl _ _) _))
  · simp only [Bool.not_true, Bool.true_or, Bool.or_true, Bool.or_false]
    exact H2.out.alloc _
  · exact (HK1.out _).trans (Keep.of_below (below_alloc (Below.refl _ _) _))
  · simp only [Bool.not_true, Bool.true_or, Bool.or_true, Bool.or_false]
    exact fin_idem H3.out
  · exact ((HK1.out _).set_ g i _ (fun _ hp => hp rfl)).trans (Keep.of_below (below_alloc (Below.refl _ _) _))
end Go.Proofs.YtijaefmaceolbaaDoor.Im

namespace Go.Proofs.YtijaefmaceolbaaDoor.Im
open Go.RowKit Go.Proofs.YtijaefmaceolbaaDoorW.PrintWords Go.Proofs.YtijaefmaceolbaaDoorW.PrintLast Go.Proofs.YtijaefmaceolbaaDoorW.PrintMore Go.Proofs.YtijaefmaceolbaaDoor.Tr
set_option linter.unusedVariables false
set_option linter.unusedSimpArgs false
set_option maxHeartbeats 3200000 in
set_option maxRecDepth 100000 in
theorem signs_parts (w0 w : World) (g m : Nat) (hg : w0.heap.size ≤ g) (x : Int) (hx : ¬ (97 ≤ x ∧ x ≤ 122)) (xs : List SNd) (h2 : xs.length ≤ 2) (A : Option Addr) (c : Nat) (hC : Kd.C kNd w0 A xs.length xs) (hc : xs.length ≤ c) (odd both : Bool) (zs : Nat → Sg) (hO : Old w0 w) (hb : Blk w g 3 (cdA m (zs 0)))
    (hcall : ∀ (k : Nat) (w1 : World) (A1 : Option Addr) (c1 : Nat), k < xs.length → Old w0 w1 → Kd.C kNd w0 A1 (rd_TNd xs (k : Int)).f1.length (rd_TNd xs (k : Int)).f1 → (rd_TNd xs (k : Int)).f1.length ≤ c1 → Blk w1 g 3 (cdA m (zs k)) →
      Calls Tryd.prog 69 #[.agg #[.int .u8 (rd_TNd xs (k : Int)).f0, .slice A1 (rd_TNd xs (k : Int)).f1.length c1], .bool (odd != (x == 33)), .bool (both || (x == 61)), .slice (some ⟨g, 0, none⟩) m m] w1 (SgP w1 g m (zs (k + 1)))) :
    Calls Tryd.prog 69 #[.agg #[.int .u8 x, .slice A xs.length c], .bool odd, .bool both, .slice (some ⟨g, 0, none⟩) m m] w (SgP w g m (zs xs.length)) := by
  have hlt := hb.lt
  have HK0 := Aside0.mk (Keep.of_below (p := fun i => i ≠ g) (below_alloc (Below.refl w.heap.size w) (.cells #[.int .u8 x, .slice A xs.length c] 84)))
  have HG0 := Aside0.mk (Blk.new w 84 #[.int .u8 x, .slice A xs.length c])
  have HB0 := Aside0.mk (hb.alloc (.cells #[.int .u8 x, .slice A xs.length c] 84))
  have HO0 := Aside0.mk (hO.keep HK0.out hg)
  have HC := Aside0.mk hC
  have HCALL := Aside0.mk hcall
  clear hC hcall hO hb
  generalize xs.length = n at *
  have n0 : (0 : Int) ≤ (n : Int) := by omega
  have hgr : w.heap.size ≠ g := by omega
  have x0 : (w.alloc (.cells #[.int .u8 x, .slice A n c] 84)).cell? ⟨w.heap.size, 0, none⟩ = some (.int .u8 x) := HG0.out.cell 0
  obtain ⟨b97, hb97⟩ : ∃ b, decide (97 ≤ x) = b := ⟨_, rfl⟩
  obtain ⟨b122, hb122⟩ : ∃ b, decide (x ≤ 122) = b := ⟨_, rfl⟩
  have hbb : (b97 && b122) = false := by
    rw [← hb97, ← hb122]
    cases h1 : decide (97 ≤ x) <;> cases h2 : decide (x ≤ 122) <;> first | rfl | (exact absurd ⟨of_decide_eq_true h1, of_decide_eq_true h2⟩ hx)
  obtain ⟨b33, hb33⟩ : ∃ b, (x == 33) = b := ⟨_, rfl⟩
  obtain ⟨b61, hb61⟩ : ∃ b, (x == 61) = b := ⟨_, rfl⟩
  rw [hb33, hb61] at HCALL
  clear hx
  go_enter Tryd.func69, Tryd.ntmps69
  go_upto_region 1 with fail
  generalize w.alloc (.cells #[.int .u8 x, .slice A n c] 84) = W0 at *
  generalize w.heap.size = gr at *
  go_cut [17] (fun s17 wx => s17 = .bool false ∧ wx = W0)
  case first =>
    cases b97
    · go_wp2_with fail
      go_meet
      exact ⟨rfl, rfl⟩
    · have h1 : b122 = false := hbb
      subst h1
      go_wp2_with fail
      go_meet
      exact ⟨rfl, rfl⟩
  case rest =>
  obtain ⟨rfl, rfl⟩ := hcut
  clear x0 hb97 hb122 hbb
  go_wp2_with fail
  go_loopw [9] (fun v wr => ∃ k : Nat, k ≤ n ∧ v = .int .i64 (k : Int) ∧ Aside0 (Blk wr g 3 (cdA m (zs k))) ∧ Aside0 (Keep (fun i => i ≠ g) wc wr)) (fun v _ => n - (intOf v).toNat)
  case atStart => exact ⟨0, by omega, rfl, HB0, ⟨Keep.refl _ _⟩⟩
  case round =>
    obtain ⟨k, hk, rfl, HBk, HKk⟩ := hrel
    have k0 : (0 : Int) ≤ (k : Int) := by omega
    have HGk := Aside0.mk (HKk.out.blk HG0.out hgr)
    have HOk := Aside0.mk (HO0.out.keep HKk.out hg)
    have y0 : wr.cell? ⟨gr, 0, none⟩ = some (.int .u8 x) := HGk.out.cell 0
    have y1 : wr.cell? ⟨gr, 1, none⟩ = some (.slice A n c) := HGk.out.cell 1
    by_cases hkn : k < n
    · have hkn' : (k : Int) < (n : Int) := by omega
      obtain ⟨ad, A1, c1, rfl, hc0, hc1, hl1, hC1⟩ := at_TNd HC.out (k : Int) k0 hkn'
      have z0 := HOk.out.cell hc0
      have z1 := HOk.out.cell hc1
      have HCk := Aside0.mk (HCALL.out k wr.drew A1 c1 hkn (HOk.out.keep (Keep.of_below (below_drew (Below.refl _ _))) hg) hC1 hl1 HBk.out.drew)
      rw [Int.toNat_natCast] at z0 z1
      rw [Int.toNat_natCast] at hc0 hc1
      have HZ := Aside0.mk (And.intro hc0 hc1)
      have HOD := Aside0.mk (show ∀ w2, Keep (fun i => i ≠ g) wr.drew w2 → Old w0 w2 from fun w2 h => (HOk.out.keep (Keep.of_below (below_drew (Below.refl _ _))) hg).keep h hg)
      clear hc0 hc1 hl1 hC1
      generalize (rd_TNd xs (k : Int)).f0 = e0 at *
      generalize (rd_TNd xs (k : Int)).f1.length = e1 at *
      have HSS := Aside0.mk (show ∀ w2, Keep (fun i => i ≠ g) wr.drew w2 → w2.cell? ⟨gr, 0, none⟩ = some (.int .u8 x) ∧ w2.cell? ⟨gr, 1, none⟩ = some (.slice (some ad) n c) ∧ w2.cell? (ad.add (k * 2)) = some (.int .u8 e0) ∧ w2.cell? ⟨(ad.add (k * 2)).block, (ad.add (k * 2)).off + 1, none⟩ = some (.slice A1 e1 c1) from
        fun w2 h => ⟨(h.blk HGk.out.drew hgr).cell 0, (h.blk HGk.out.drew hgr).cell 1, (HOD.out w2 h).cell HZ.out.1, (HOD.out w2 h).cell HZ.out.2⟩)
      have HCZ := HOk.out.cell HZ.out.1
      have y0d : wr.drew.cell? ⟨gr, 0, none⟩ = some (.int .u8 x) := y0
      have y1d : wr.drew.cell? ⟨gr, 1, none⟩ = some (.slice (some ad) n c) := y1
      have z0d : wr.drew.cell? (ad.add (k * 2)) = some (.int .u8 e0) := z0
      have z1d : wr.drew.cell? ⟨(ad.add (k * 2)).block, (ad.add (k * 2)).off + 1, none⟩ = some (.slice A1 e1 c1) := z1
      clear HCZ
      cases both
      · simp only [Bool.false_or] at HCk
        go_upto_region 10 with fail
        go_still_tail 17, (by kernel_rfl)
        go_wp2_with fail
        refine HCk.out.mono ?_
        rintro e w2 ⟨rfl, hbk2, hk2⟩
        have HBK2 := Aside0.mk hbk2
        have HKK2 := Aside0.mk (HKk.out.trans ((Keep.of_below (below_drew (Below.refl _ _))).trans hk2))
        clear hbk2 hk2 y0 y1 y0d y1d z0 z1 z0d z1d
        go_wp2_with fail
        go_roundw
        case rel => exact ⟨k + 1, by omega, by go_num, HBK2, HKK2⟩
        case measure => simp [intOf]; omega
      · simp only [Bool.true_or] at HCk
        go_upto_region 10 with fail
        go_still_tail 17, (by kernel_rfl)
        go_wp2_with fail
        refine HCk.out.mono ?_
        rintro e w2 ⟨rfl, hbk2, hk2⟩
        have HBK2 := Aside0.mk hbk2
        have HKK2 := Aside0.mk (HKk.out.trans ((Keep.of_below (below_drew (Below.refl _ _))).trans hk2))
        clear hbk2 hk2 y0 y1 y0d y1d z0 z1 z0d z1d
        go_wp2_with fail
        go_roundw
        case rel => exact ⟨k + 1, by omega, by go_num, HBK2, HKK2⟩
        case measure => simp [intOf]; omega
    · obtain rfl : n = k := by omega
      go_wp2_with fail
      go_end0
      exact ⟨rfl, HBk.out, HK0.out.trans HKk.out⟩
end Go.Proofs.YtijaefmaceolbaaDoor.Im

namespace Go.Proofs.YtijaefmaceolbaaDoor.Im
open Go.RowKit Go.Proofs.YtijaefmaceolbaaDoorW.PrintWords Go.Proofs.YtijaefmaceolbaaDoorW.PrintLast Go.Proofs.YtijaefmaceolbaaDoorW.PrintMore Go.Proofs.YtijaefmaceolbaaDoor.Tr
attribute [local go_sem] max2_int min2_int max_two min_two max_three min_three max_four min_four
set_option linter.unusedVariables false
set_option linter.unusedSimpArgs false
theorem letS_neg (f : Fm) (odd tw : Bool) (S : Sg) : letS (.neg f) odd tw S = letS f (!odd) tw S := rfl
theorem signs_any {n : Nat} (hn : n ≤ 10) : ∀ (f : Fm) (w0 w : World) (g : Nat) (odd both : Bool) (z : Sg) (A : Option Addr) (c : Nat), f.low n → Kd.C kNd w0 A (ndF f).f1.length (ndF f).f1 → (ndF f).f1.length ≤ c → Old w0 w → w0.heap.size ≤ g → Blk w g 3 (cdA n z) →
    Calls Tryd.prog 69 #[.agg #[.int .u8 (ndF f).f0, .slice A (ndF f).f1.length c], .bool odd, .bool both, .slice (some ⟨g, 0, none⟩) n n] w (SgP w g n (letS f odd both z))
  | .con b, w0, w, g, odd, both, z, A, c, _, hC, hc, hO, hg, hb => by
    rw [letS_con]
    exact signs_parts w0 w g n hg (ndF (.con b)).f0 (by cases b <;> decide) [] (by simp) A c hC hc odd both (fun _ => z) hO hb (fun _ _ _ _ h => absurd h (by simp))
  | .lt i, w0, w, g, odd, both, z, A, c, h, hC, hc, hO, hg, hb => by
    rw [letS_lt]
    exact signs_lt w g n i hn h odd both z A c hb
  | .neg f, w0, w, g, odd, both, z, A, c, h, hC, hc, hO, hg, hb => by
    rw [letS_neg]
    have := signs_parts w0 w g n hg 33 (by decide) [ndF f] (by simp) A c hC hc odd both (fun k => if k = 0 then z else letS f (!odd) both z) hO hb (fun k w1 A1 c1 hk hO1 hC1 hc1 hb1 => by
      have : k = 0 := by simpa using hk
      subst this
      have e1 : (odd != ((33 : Int) == 33)) = !odd := by cases odd <;> rfl
      have e2 : (both || ((33 : Int) == 61)) = both := by cases both <;> rfl
      rw [e1, e2]
      exact signs_any hn f w0 w1 g (!odd) both z A1 c1 h hC1 hc1 hO1 hg hb1)
    exact this
  | .bin o l r, w0, w, g, odd, both, z, A, c, h, hC, hc, hO, hg, hb => by
    rw [letS_bin]
    have e1 : (odd != (opN o == 33)) = odd := by cases odd <;> cases o <;> rfl
    have e2 : (both || (opN o == 61)) = (both || o == .eq) := by cases both <;> cases o <;> rfl
    have := signs_parts w0 w g n hg (opN o) (by cases o <;> decide) [ndF l, ndF r] (by simp) A c hC hc odd both (fun k => if k = 0 then z else if k = 1 then letS l odd (both || o == .eq) z else letS r odd (both || o == .eq) (letS l odd (both || o == .eq) z)) hO hb (fun k w1 A1 c1 hk hO1 hC1 hc1 hb1 => by
      have : k = 0 ∨ k = 1 := by have : k < 2 := hk; omega
      rw [e1, e2]
      rcases this with rfl | rfl
      · exact signs_any hn l w0 w1 g odd _ z A1 c1 h.1 hC1 hc1 hO1 hg hb1
      · exact signs_any hn r w0 w1 g odd _ _ A1 c1 h.2 hC1 hc1 hO1 hg hb1)
    exact this
theorem mkInts (n : Nat) (hn : n ≤ 10) (W : World) : (Instr.makeSlice 25 (.int .i64 (n : Int)) (.int .i64 (n : Int))).run Tryd.prog W = .ok (.slice (some ⟨W.heap.size, 0, none⟩) n n) (W.alloc (.cells (cdA n zeroS) 3)) := by
  rw [print_make_of 25 3 (.int .i64 0) 8 Tryd.underlying25 info3 rfl (by decide) n (by omega) W]
  congr 3
  apply Array.ext_getElem?
  intro j
  by_cases hj : j < n <;> simp [madeCells, cdA, cdL, cdS, zeroS, hj, Nat.mod_one]
theorem R_cdA {w : World} {g n : Nat} {z : Sg} (hn : n ≤ 10) (h : Blk w g 3 (cdA n z)) (base : Nat) (hb : base ≤ g) (ok : Nat → Prop) (hok : ok g) : Kd.R (Kd.int .i64) 3 w base ok (.slice (some ⟨g, 0, none⟩) n n) (cdL n z) := by
  have hl : (cdL n z).length = n := by simp [cdL]
  have h1 : w.ownsRow base 3 1 (.slice (some ⟨g, 0, none⟩) n n) (cdL n z).length (encs (Value.int .i64) (cdL n z)) := by
    rw [hl]
    have hs : (cdA n z).size = n := by simp [cdA, cdL]
    refine ⟨by simp [encs, cdL], .inr ⟨g, n, cdA n z, rfl, hb, h, Nat.le_refl _, by unfold maxLen; omega, by rw [hs, Nat.mul_one], ?_⟩⟩
    rw [Nat.mul_one]
    show List.take n ((cdL n z).map (Value.int .i64)) = _
    rw [List.take_of_length_le (by rw [List.length_map, hl]; exact Nat.le_refl _)]
    rfl
  exact Kd.R_of_own h1 (fun k hk => by
    have : g = k := by simpa [Value.ownBlock] using hk
    rw [← this]; exact hok)
theorem info25' : (Tryd.prog.info? 25).map (fun i => (i.zero, i.size, i.bytes)) = some (some (.slice none 0 0), 1, 24) := by kernel_rfl
def sgL (fs : List Fm) (n : Nat) : List (List Int) := (List.range n).map fun i => cdL n (sgF fs i)
def SigPost (fs : List Fm) (n : Nat) (w : World) (e : Ending) (w' : World) : Prop :=
  ∃ A c, e = .returned (.slice A n c) ∧ n ≤ c ∧ Kd.C (Kd.slice 3 (Kd.int .i64)) w' A n (sgL fs n) ∧ Below w.heap.size w w'
set_option maxHeartbeats 3200000 in
set_option maxRecDepth 100000 in
theorem signs_call (l : List (List UInt8)) (h0 : sysE l = 0) (w : World) (A : Option Addr) (c : Nat) (hr : Kd.C Kd.string w A l.length (l.map strL)) :
    Calls Tryd.prog 30 #[.slice A l.length c] w (SigPost (sysF l) l.length w) := by
  have S := sys_ok h0
  have HO := Aside0.mk (rread_good h0 w A c hr)
  obtain ⟨n, hn⟩ : ∃ n, l.length = n := ⟨_, rfl⟩
  rw [hn] at HO S ⊢
  generalize sysF l = fs at *
  have n10 : n ≤ 10 := S.n10
  have n0 : (0 : Int) ≤ (n : Int) := by omega
  have hmk := fun W => mkInts n n10 W
  have HS := Aside0.mk S
  clear hr h0 hn S
  go_enter Tryd.func30, Tryd.ntmps30
  go_wp2_with fail
  refine HO.out.mono ?_
  rintro e w1 ⟨A1, c1, hc1, rfl, hC, hb⟩
  have HB1 := Aside0.mk hb
  have HC := Aside0.mk hC
  have HCC := Aside0.mk hc1
  have HBR := Aside0.mk (Below.refl w1.heap.size w1)
  clear hC hb hc1
  go_wp2_with fail
  go_loopw [5, 6] (fun v5 v6 wr => ∃ k : Nat, k ≤ n ∧ v6 = .int .i64 (k : Int) ∧ Aside0 (Below w1.heap.size w1 wr) ∧ Aside0 (Kd.R (Kd.slice 3 (Kd.int .i64)) 25 wr w1.heap.size (fun _ => True) v5 ((sgL fs n).take k))) (fun _ v6 _ => n - (intOf v6).toNat)
  case atStart => exact ⟨0, by omega, rfl, HBR, ⟨Kd.R_nil _ _ _ _ _⟩⟩
  case round =>
    clear HBR
    obtain ⟨k, hk, rfl, HB, HRR⟩ := hrel
    have k0 : (0 : Int) ≤ (k : Int) := by omega
    by_cases hkn : k < n
    · have hkn' : (k : Int) < (n : Int) := by omega
      obtain ⟨ad, A2, c2, rfl, z0, z1, hl1, hC1⟩ := at_TNd (Kd.C_below HC.out HB.out) (k : Int) k0 hkn'
      rw [rd_ndF fs k (by rw [HS.out.len]; exact hkn)] at z0 z1 hl1 hC1
      rw [Int.toNat_natCast] at z0 z1
      change wr.cell? (ad.add (k * 2)) = some (.int .u8 (ndF (fmA fs k)).f0) at z0
      change wr.cell? ⟨(ad.add (k * 2)).block, (ad.add (k * 2)).off + 1, none⟩ = some (.slice A2 (ndF (fmA fs k)).f1.length c2) at z1
      have hbn : Below wr.heap.size wr (wr.alloc (.cells (cdA n zeroS) 3)) := below_alloc (Below.refl _ _) _
      have HSG := Aside0.mk (signs_any n10 (fmA fs k) wr (wr.alloc (.cells (cdA n zeroS) 3)) wr.heap.size false false zeroS A2 c2 (fmA_low HS.out k) hC1 hl1 ⟨hbn.size, fun i hi => hbn.block i hi⟩ (Nat.le_refl _) (Blk.new _ _ _))
      have z0n := pw_cell_below hbn z0
      have z1n := pw_cell_below hbn z1
      have HBN := Aside0.mk (below_then HB.out HB.out.size hbn)
      have HRN := Aside0.mk (Kd.R_below (Kd.R_mono (ok' := fun q => q < wr.heap.size) (Kd.R_bound HRR.out) (fun q hq => hq.2.2.1)) hbn)
      have HWB := Aside0.mk HB.out.size
      have HSL := Aside0.mk (show (sgL fs n).take (k + 1) = (sgL fs n).take k ++ [cdL n (sgF fs k)] by
        rw [List.take_succ_eq_append_getElem (by simp [sgL]; exact hkn)]
        simp [sgL])
      have HLN := Aside0.mk (show ((sgL fs n).take k).length ≤ 10 by rw [List.length_take]; omega)
      clear hl1 hC1 hbn z0 z1 HRR HB
      go_wp2_with fail
      generalize hG : wr.heap.size = G at *
      refine HSG.out.mono ?_
      rintro e w2 ⟨rfl, hbk2, hk2⟩
      have hw : w1.heap.size ≤ (wr.alloc (.cells (cdA n zeroS) 3)).heap.size := HBN.out.size
      have HB2 := Aside0.mk (HBN.out.trans (hk2.below hw (fun i hi => by have := HWB.out; omega)))
      have HRX := Aside0.mk (Kd.R_step HRN.out (fun q hq hlt => hk2.block q hlt (by omega)))
      have HROW := Aside0.mk (R_cdA n10 hbk2 w1.heap.size HWB.out (fun q => q = G) rfl)
      clear hbk2 hk2 hw z0n z1n hG
      go_wp2_with (first | ((with_reducible refine gate_builtin (b := .append) (xs := #[.tmp 28, .tmp 30]) rfl ?_); at_builtin; refine Kd.R_append (Kd.slice 3 (Kd.int .i64)) (w0 := w1) w1.heap.size rfl (.tmp 28) (.tmp 30) 42 25 (.slice none 0 0) 24 rfl Tryd.underlying42 info25' rfl (by decide) (by omega) _ ((sgL fs n).take k) (cdL n (sgF fs k)) [.slice (some ⟨G, 0, none⟩) n n] (fun _ => True) (fun q => q = G) rfl rfl ?aP ?aK ?aF ?aO ?aB ?aS ?aL ?_; (case aP => exact ⟨_, rfl, HROW.out⟩); (case aK => exact (fun q hq => ⟨trivial, fun he => by have := HRX.out.1 q he.symm; omega⟩)); (case aF => exact (fun k hk => trivial)); (case aO => exact Kd.R_mono HRX.out (fun _ _ => trivial)); (case aB => exact HB2.out); (case aS => exact HB2.out.size); (case aL => have := HLN.out; omega); intro v9 w9 ho hb hg hat; rw [← HSL.out] at ho; have HR9 := Aside0.mk ho; have HB9 := Aside0.mk hb; clear ho hb hg hat))
      go_roundw
      case rel => exact ⟨k + 1, by omega, by go_num, HB9, HR9⟩
      case measure => simp [intOf]; omega
    · obtain rfl : n = k := by omega
      have hlen : (sgL fs n).length = n := by simp [sgL]
      have htk := HRR.out
      rw [List.take_of_length_le (by rw [hlen]; exact Nat.le_refl _)] at htk
      obtain ⟨A5, c5, rfl, h5, hC5⟩ := Kd.R_reads htk
      rw [hlen] at h5 hC5 ⊢
      have HX := Aside0.mk hC5
      have HXL := Aside0.mk h5
      clear htk hC5 h5 HRR hlen
      go_wp2_with fail
      go_ret
      exact ⟨A5, c5, rfl, HXL.out, HX.out, below_then HB1.out HB1.out.size HB.out⟩
end Go.Proofs.YtijaefmaceolbaaDoor.Im

namespace Go.Proofs.YtijaefmaceolbaaDoor.Im
open Go.RowKit Go.Proofs.YtijaefmaceolbaaDoorW.PrintWords Go.Proofs.YtijaefmaceolbaaDoorW.PrintLast Go.Proofs.YtijaefmaceolbaaDoorW.PrintMore Go.Proofs.YtijaefmaceolbaaDoor.Tr
set_option linter.unusedVariables false
set_option linter.unusedSimpArgs false
structure BadL (fs : List Fm) (n s : Nat) (bs : List Nat) : Prop where
  mem : ∀ m, m ∈ bs ↔ m < s ∧ Bad fs n m
  up : bs.Pairwise (· < ·)
  len : bs.length ≤ s
theorem BadL.skip {fs : List Fm} {n s : Nat} {bs : List Nat} (h : BadL fs n s bs) (hb : ¬ Bad fs n s) : BadL fs n (s + 1) bs :=
  ⟨fun m => by
    rw [h.mem m]
    constructor
    · exact fun ⟨h1, h2⟩ => ⟨by omega, h2⟩
    · rintro ⟨h1, h2⟩
      rcases Nat.lt_or_ge m s with h3 | h3
      · exact ⟨h3, h2⟩
      · obtain rfl : m = s := by omega
        exact absurd h2 hb, h.up, by have := h.len; omega⟩
theorem BadL.add {fs : List Fm} {n s : Nat} {bs : List Nat} (h : BadL fs n s bs) (hb : Bad fs n s) : BadL fs n (s + 1) (bs ++ [s]) :=
  ⟨fun m => by
    rw [List.mem_append, List.mem_singleton, h.mem m]
    constructor
    · rintro (⟨h1, h2⟩ | rfl)
      · exact ⟨by omega, h2⟩
      · exact ⟨by omega, hb⟩
    · rintro ⟨h1, h2⟩
      rcases Nat.lt_or_ge m s with h3 | h3
      · exact .inl ⟨h3, h2⟩
      · exact .inr (by omega),
   List.pairwise_append.2 ⟨h.up, List.pairwise_singleton _ _, fun a ha b hb => by rw [List.mem_singleton.1 hb]; exact ((h.mem a).1 ha).1⟩,
   by rw [List.length_append, List.length_singleton]; have := h.len; omega⟩
def BestV (w : World) (v : Value) : Option (List Nat) → Prop
  | none => v = .slice none 0 0
  | some c => ∃ ad d, v = .slice (some ad) c.length d ∧ c.length ≤ d ∧ Kd.C (Kd.int .i64) w (some ad) c.length (ints c)
theorem BestV.below {w w' : World} {v : Value} {b : Option (List Nat)} (h : BestV w v b) (hb : Below w.heap.size w w') : BestV w' v b := by
  cases b with
  | none => exact h
  | some c =>
    obtain ⟨ad, d, h1, h2, h3⟩ := h
    exact ⟨ad, d, h1, h2, Kd.C_below h3 hb⟩
end Go.Proofs.YtijaefmaceolbaaDoor.Im

namespace Go.Proofs.YtijaefmaceolbaaDoor.Im
open Go.RowKit Go.Proofs.YtijaefmaceolbaaDoorW.PrintWords Go.Proofs.YtijaefmaceolbaaDoorW.PrintLast Go.Proofs.YtijaefmaceolbaaDoorW.PrintMore Go.Proofs.YtijaefmaceolbaaDoor.Tr
set_option linter.unusedVariables false
set_option linter.unusedSimpArgs false
def StI (n : Nat) (w0 : World) (gs go : Nat) (sl : Value) (pr : Nat → Prop) (st : Option (List T3)) (w : World) : Prop :=
  match st with
  | none => Own2 w0 gs go 49 sl (.slice none 0 0) pr w
  | some o => ∃ gb cap, Own2 w0 gs go 49 sl (.slice (some ⟨gb, 0, none⟩) n cap) pr w ∧ BRow w gb n o ∧ ¬ pr gb ∧ w0.heap.size ≤ gb
theorem StI.own {n : Nat} {w0 w : World} {gs go : Nat} {sl : Value} {pr : Nat → Prop} {st : Option (List T3)} (h : StI n w0 gs go sl pr st w) : ∃ u, Own2 w0 gs go 49 sl u pr w := by
  cases st with
  | none => exact ⟨_, h⟩
  | some o => obtain ⟨gb, cap, h1, _⟩ := h; exact ⟨_, h1⟩
theorem StI.step {n : Nat} {w0 w w' : World} {gs go : Nat} {sl : Value} {pr pr' : Nat → Prop} {st : Option (List T3)} (h : StI n w0 gs go sl pr st w) (k : Keep (fun i => ¬ pr i) w w') (hp : ∀ i, pr' i → pr i ∨ (w.heap.size ≤ i ∧ i < w'.heap.size)) : StI n w0 gs go sl pr' st w' := by
  cases st with
  | none => exact Own2.step h k hp
  | some o =>
    obtain ⟨gb, cap, h1, h2, h3, h4⟩ := h
    refine ⟨gb, cap, h1.step k hp, h2.keep k h3, fun hh => ?_, h4⟩
    rcases hp gb hh with h5 | h5
    · exact h3 h5
    · have := h2.lt; omega
theorem StI.below {n : Nat} {w0 w w' : World} {gs go : Nat} {sl : Value} {pr : Nat → Prop} {st : Option (List T3)} (h : StI n w0 gs go sl pr st w) (k : Below w.heap.size w w') : StI n w0 gs go sl pr st w' := h.step (Keep.of_below k) (fun _ hi => .inl hi)
def StJ (nb n : Nat) (w0 : World) (gs go : Nat) (sl : Value) (pr : Nat → Prop) (st : Option (List T3)) (w : World) : Prop :=
  match st with
  | none => Own2 w0 gs go 49 sl (.slice none 0 0) pr w
  | some o => ∃ gb cap, Own2 w0 gs go 49 sl (.slice (some ⟨gb, 0, none⟩) n cap) pr w ∧ BRow w gb n o ∧ ¬ pr gb ∧ w0.heap.size ≤ gb ∧ gb ≠ nb
theorem StJ.out {nb n : Nat} {w0 w : World} {gs go : Nat} {sl : Value} {pr : Nat → Prop} {st : Option (List T3)} (h : StJ nb n w0 gs go sl pr st w) : StI n w0 gs go sl pr st w := by
  cases st with
  | none => exact h
  | some o => obtain ⟨gb, cap, h1, h2, h3, h4, _⟩ := h; exact ⟨gb, cap, h1, h2, h3, h4⟩
end Go.Proofs.YtijaefmaceolbaaDoor.Im

namespace Go.Proofs.YtijaefmaceolbaaDoor.Im
open Go.RowKit Go.Proofs.YtijaefmaceolbaaDoorW.PrintWords Go.Proofs.YtijaefmaceolbaaDoorW.PrintLast Go.Proofs.YtijaefmaceolbaaDoorW.PrintMore Go.Proofs.YtijaefmaceolbaaDoor.Tr
set_option linter.unusedVariables false
set_option linter.unusedSimpArgs false
section
variable {α : Type} {enc : α → Value} {h1 : ∀ x, (enc x).oneCell' = true} {e : Nat} {W : World} {base g n cap : Nat} {ok : Nat → Prop} {xs : List α}
theorem R_pin (h : (Kd.scalar enc h1).R e W base ok (.slice (some ⟨g, 0, none⟩) n cap) xs) : (Kd.scalar enc h1).R e W base (fun k => k = g) (.slice (some ⟨g, 0, none⟩) n cap) xs := by
  obtain ⟨rfl, _⟩ := Kd.R_reads' h
  exact Kd.R_of_own (Kd.own_of_R h) (fun k hk => by
    have : g = k := by simpa [Value.ownBlock] using hk
    exact this.symm)
end
abbrev RwI (W : World) (base g n cap : Nat) (xs : List Int) : Prop := Kd.R (Kd.int .i64) 3 W base (fun k => k = g) (.slice (some ⟨g, 0, none⟩) n cap) xs
abbrev RwB (W : World) (base g n cap : Nat) (xs : List Bool) : Prop := Kd.R Kd.bool 4 W base (fun k => k = g) (.slice (some ⟨g, 0, none⟩) n cap) xs
theorem RwI.set_ {W : World} {base g n cap : Nat} {xs : List Int} (h : RwI W base g n cap xs) (i : Nat) (x : Int) : RwI (W.setCell ⟨g, i, none⟩ (.int .i64 x)) base g n cap (xs.set i x) := by
  have := (Kd.R_putg h (i : Int) x).1
  rw [Int.toNat_natCast] at this
  exact this
theorem RwB.set_ {W : World} {base g n cap : Nat} {xs : List Bool} (h : RwB W base g n cap xs) (i : Nat) (x : Bool) : RwB (W.setCell ⟨g, i, none⟩ (.bool x)) base g n cap (xs.set i x) := by
  have := (Kd.R_putg h (i : Int) x).1
  rw [Int.toNat_natCast] at this
  exact this
theorem RwI.far {W : World} {base g n cap : Nat} {xs : List Int} (h : RwI W base g n cap xs) {p : Addr} (hp : g ≠ p.block) (u : Value) : RwI (W.setCell p u) base g n cap xs := Kd.R_far h (fun k hk => by rw [hk]; exact hp) u
theorem RwB.far {W : World} {base g n cap : Nat} {xs : List Bool} (h : RwB W base g n cap xs) {p : Addr} (hp : g ≠ p.block) (u : Value) : RwB (W.setCell p u) base g n cap xs := Kd.R_far h (fun k hk => by rw [hk]; exact hp) u
theorem RwI.cell {W : World} {base g n cap : Nat} {xs : List Int} (h : RwI W base g n cap xs) (i : Nat) (hi : i < n) : W.cell? ⟨g, i, none⟩ = some (.int .i64 (xs.getD i 0)) ∧ W.frozen? ⟨g, i, none⟩ = false := by
  have := Kd.R_celln 0 h (i : Int) (by omega) (by omega)
  rw [Int.toNat_natCast] at this
  have e : rdOf 0 xs (i : Int) = xs.getD i 0 := by simp [rdOf]
  rw [e] at this
  exact this
theorem RwB.cell {W : World} {base g n cap : Nat} {xs : List Bool} (h : RwB W base g n cap xs) (i : Nat) (hi : i < n) : W.cell? ⟨g, i, none⟩ = some (.bool (xs.getD i false)) ∧ W.frozen? ⟨g, i, none⟩ = false := by
  have := Kd.R_celln false h (i : Int) (by omega) (by omega)
  rw [Int.toNat_natCast] at this
  have e : rdOf false xs (i : Int) = xs.getD i false := by simp [rdOf]
  rw [e] at this
  exact this
theorem getD_map {α : Type} (f : Nat → α) (z : α) {N x : Nat} (h : x < N) : ((List.range N).map f).getD x z = f x := by simp [h]
def ledL (nx : Nat → Nat) (L : List Bool) (N : Nat) : Nat → List Bool
  | 0 => List.replicate N false
  | x + 1 => if L.getD x false then (ledL nx L N x).set (nx x) true else ledL nx L N x
theorem ledL_len (nx : Nat → Nat) (L : List Bool) (N : Nat) : ∀ x, (ledL nx L N x).length = N
  | 0 => by simp [ledL]
  | x + 1 => by
    rw [ledL]
    split
    · rw [List.length_set, ledL_len nx L N x]
    · exact ledL_len nx L N x
theorem ledL_iff {nx : Nat → Nat} {L : List Bool} {N : Nat} {y : Nat} (hy : y < N) : ∀ x, (ledL nx L N x).getD y false = true ↔ ∃ z, z < x ∧ L.getD z false = true ∧ nx z = y
  | 0 => by simp [ledL, hy]
  | x + 1 => by
    have ih := ledL_iff (nx := nx) (L := L) hy x
    rw [ledL]
    split
    · rename_i hL
      by_cases he : nx x = y
      · rw [List.getD_eq_getElem?_getD, List.getElem?_set, if_pos he, if_pos (by rw [ledL_len]; omega)]
        exact ⟨fun _ => ⟨x, by omega, hL, he⟩, fun _ => rfl⟩
      · rw [List.getD_eq_getElem?_getD, List.getElem?_set, if_neg he, ← List.getD_eq_getElem?_getD, ih]
        constructor
        · rintro ⟨z, h1, h2, h3⟩; exact ⟨z, by omega, h2, h3⟩
        · rintro ⟨z, h1, h2, h3⟩
          rcases Nat.lt_or_ge z x with h4 | h4
          · exact ⟨z, h4, h2, h3⟩
          · obtain rfl : z = x := by omega
            exact absurd h3 he
    · rename_i hL
      rw [ih]
      constructor
      · rintro ⟨z, h1, h2, h3⟩; exact ⟨z, by omega, h2, h3⟩
      · rintro ⟨z, h1, h2, h3⟩
        rcases Nat.lt_or_ge z x with h4 | h4
        · exact ⟨z, h4, h2, h3⟩
        · obtain rfl : z = x := by omega
          exact absurd h2 hL
def lefL (L D : List Bool) (x : Nat) : List Bool := (List.range x).map (fun y => L.getD y false && D.getD y false) ++ L.drop x
theorem lefL_all {L D : List Bool} : lefL L D L.length = (List.range L.length).map (fun y => L.getD y false && D.getD y false) := by simp [lefL]
def agB (L D : List Bool) (x : Nat) : Bool := (List.range x).any fun y => L.getD y false && !D.getD y false
def cntB (N : Nat) (L : List Bool) : Nat := (List.range N).countP fun y => L.getD y false
theorem countP_part (p q : Nat → Bool) : ∀ l : List Nat, l.countP p = l.countP (fun x => p x && q x) + l.countP (fun x => p x && !q x)
  | [] => rfl
  | a :: l => by
    rw [List.countP_cons, List.countP_cons, List.countP_cons, countP_part p q l]
    cases p a <;> cases q a <;> simp <;> omega
structure LefI (fs : List Fm) (n : Nat) (L : List Bool) (ag : Bool) : Prop where
  len : L.length = 2 ^ n
  left : Tr.Left fs n (fun x => L.getD x false)
  done : ag = false → ∀ y, L.getD y false = true → ledN fs n (fun x => L.getD x false) y
theorem LefI.next {n : Nat} {fs : List Fm} (S : Tr.Sys n fs) {L : List Bool} {ag : Bool} (h : LefI fs n L ag) :
    LefI fs n (lefL L (ledL (nxN fs n) L (2 ^ n) (2 ^ n)) (2 ^ n)) (agB L (ledL (nxN fs n) L (2 ^ n) (2 ^ n)) (2 ^ n)) := by
  have hl := h.len
  generalize hD : ledL (nxN fs n) L (2 ^ n) (2 ^ n) = D at *
  have e : lefL L D (2 ^ n) = (List.range (2 ^ n)).map (fun y => L.getD y false && D.getD y false) := by rw [← hl]; exact lefL_all
  have hout : ∀ (M : List Bool), M.length = 2 ^ n → ∀ y, M.getD y false = true → y < 2 ^ n := fun M hM y hy => by
    rcases Nat.lt_or_ge y (2 ^ n) with h1 | h1
    · exact h1
    · rw [List.getD_eq_getElem?_getD, List.getElem?_eq_none (by omega)] at hy; cases hy
  have hDi : ∀ y, y < 2 ^ n → (D.getD y false = true ↔ ledN fs n (fun x => L.getD x false) y) := fun y hy => by
    rw [← hD, ledL_iff hy]
    constructor
    · rintro ⟨z, h1, h2, h3⟩; exact ⟨z, h2, h3⟩
    · rintro ⟨z, h2, h3⟩; exact ⟨z, hout L hl z h2, h2, h3⟩
  have hM : ∀ y, (lefL L D (2 ^ n)).getD y false = true ↔ L.getD y false = true ∧ ledN fs n (fun x => L.getD x false) y := fun y => by
    rcases Nat.lt_or_ge y (2 ^ n) with h1 | h1
    · rw [e, getD_map _ _ h1, Bool.and_eq_true, hDi y h1]
    · rw [e, List.getD_eq_getElem?_getD, List.getElem?_eq_none (by simp; exact h1)]
      constructor
      · intro h2; cases h2
      · rintro ⟨h2, _⟩; have := hout L hl y h2; omega
  refine ⟨by rw [e]; simp, h.left.step S hM, fun ha y hy => ?_⟩
  have hall : ∀ y, L.getD y false = true → (lefL L D (2 ^ n)).getD y false = true := fun y hy => by
    have h1 := hout L hl y hy
    rw [e, getD_map _ _ h1, hy, Bool.true_and]
    unfold agB at ha
    rw [List.any_eq_false] at ha
    have := ha y (List.mem_range.2 h1)
    rw [hy, Bool.true_and] at this
    simpa using this
  obtain ⟨z, h1, h2⟩ := ((hM y).1 hy).2
  exact ⟨z, hall z h1, h2⟩
end Go.Proofs.YtijaefmaceolbaaDoor.Im

