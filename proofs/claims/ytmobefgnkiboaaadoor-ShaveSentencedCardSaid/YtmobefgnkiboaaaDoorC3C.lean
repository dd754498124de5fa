/- Further parts of the same walk: contracts of the functions that the law reaches, each under the conditions that it states. -/
import Derived.Test.YtmobefgnkiboaaaDoorC3B
import Derived.Deep.WholeRow
namespace Go.Proofs.YtmobefgnkiboaaaDoor.Sh
open Go.RowKit Go.Proofs.YtmobefgnkiboaaaDoorW.PrintWords Go.Proofs.YtmobefgnkiboaaaDoorW.PrintLast Go.Proofs.YtmobefgnkiboaaaDoorW.PrintMore
set_option linter.unusedVariables false
def arcOk (n : Int) (p : S43) : Bool := decide (0 ≤ p.f0) && decide (p.f0 < n) && decide (0 ≤ p.f1) && decide (p.f1 < n)
def addArc (o : List Nat) (p : S43) : List Nat := o.set p.f0.toNat (o.getD p.f0.toNat 0 ||| 2 ^ p.f1.toNat)
def zero12 : List Nat := [0, 0, 0, 0, 0, 0, 0, 0, 0, 0, 0, 0]
def townO (l : List S43) : List Nat := l.foldl addArc zero12
def ofE (n : Int) (l : List S43) : Int := if n < 1 ∨ 12 < n then 2 else if 80 < l.length then 3 else if l.all (arcOk n) then 0 else 2
def OfPost (n : Int) (l : List S43) (w : World) (e : Ending) (w' : World) : Prop :=
  e = .returned (.tuple #[.agg (if ofE n l = 0 then tnN n.toNat (townO l) else tnN 0 zero12), .int .i64 (ofE n l)]) ∧ Below w.heap.size w w'
theorem results45 (tmps : Array Value) (w : World) (g : Nat) (cs : Array Value) (hp : tmps.getD 4 undef = .pointer (some ⟨g, 0, none⟩)) (hb : Blk w g 47 cs) (hs : cs.size = 13) :
    (results Tryd.f19 tmps).run Tryd.prog w = .ok (.tuple #[.agg cs, tmps.getD 5 undef]) w := by
  have hp' : tmps[4]?.getD undef = .pointer (some ⟨g, 0, none⟩) := by simpa using hp
  simp [results, Tryd.results19, hp', asAddr, run_loadVar_row w g 47 47 cs (0, 0) _ hb Tryd.underlying47 rfl (by rw [info50, hs])]
theorem townO_snoc (l : List S43) (k : Nat) (h : k < l.length) : townO (l.take (k + 1)) = addArc (townO (l.take k)) (rd_T43 l k) := by
  rw [List.take_succ_eq_append_getElem h]
  unfold townO
  rw [List.foldl_append]
  simp [rd_T43, h]
def PreOk (n : Int) (l : List S43) (k : Nat) : Prop := ∀ j, j < k → arcOk n (rd_T43 l j) = true
theorem PreOk.succ {n : Int} {l : List S43} {k : Nat} (h : PreOk n l k) (h1 : arcOk n (rd_T43 l k) = true) : PreOk n l (k + 1) := fun j hj => by
  rcases Nat.lt_or_ge j k with hlt | hge
  · exact h j hlt
  · obtain rfl : j = k := by omega
    exact h1
theorem all_of_pre {n : Int} {l : List S43} (h : PreOk n l l.length) : l.all (arcOk n) = true := by
  rw [List.all_eq_true]
  intro x hx
  obtain ⟨i, hi, rfl⟩ := List.getElem_of_mem hx
  have := h i hi
  simpa [rd_T43, hi] using this
theorem not_all {n : Int} {l : List S43} {k : Nat} (hk : k < l.length) (h : arcOk n (rd_T43 l k) = false) : l.all (arcOk n) = false := by
  rw [List.all_eq_false]
  refine ⟨l[k], List.getElem_mem hk, ?_⟩
  simp [rd_T43, hk] at h
  simp [h]
theorem townO_len (l : List S43) : (townO l).length = 12 := by
  unfold townO
  suffices ∀ (l : List S43) (o : List Nat), o.length = 12 → (l.foldl addArc o).length = 12 from this l _ rfl
  intro l
  induction l with
  | nil => exact fun _ h => h
  | cons a l ih => intro o h; exact ih _ (by simp [addArc, h])
theorem rd_take (l : List S43) (k j : Nat) (h : j < k) : rd_T43 (l.take k) j = rd_T43 l j := by
  simp [rd_T43, h]
theorem foldl_lt (m : Nat) (l : List S43) : ∀ (o : List Nat), (∀ i, o.getD i 0 < 2 ^ m) → (∀ p ∈ l, arcOk m p = true) → ∀ i, (l.foldl addArc o).getD i 0 < 2 ^ m := by
  induction l with
  | nil => exact fun o h _ => h
  | cons a l ih =>
    intro o h hp
    refine ih _ (fun i => ?_) (fun p hp' => hp p (List.mem_cons_of_mem _ hp'))
    have ha := hp a List.mem_cons_self
    simp only [arcOk, Bool.and_eq_true, decide_eq_true_eq] at ha
    unfold addArc
    have h0 : o.getD a.f0.toNat 0 ||| 2 ^ a.f1.toNat < 2 ^ m := Nat.or_lt_two_pow (h _) (Nat.pow_lt_pow_right (by decide) (by omega))
    have hz : 0 < 2 ^ m := Nat.two_pow_pos m
    simp only [List.getD_eq_getElem?_getD, List.getElem?_set]
    split
    · split
      · simpa [List.getD_eq_getElem?_getD] using h0
      · simpa using hz
    · simpa [List.getD_eq_getElem?_getD] using h i
theorem zero12_lt (m : Nat) (i : Nat) : zero12.getD i 0 < 2 ^ m := by
  have : zero12.getD i 0 = 0 := by
    unfold zero12
    rcases i with _|_|_|_|_|_|_|_|_|_|_|_|i <;> simp
  rw [this]; exact Nat.two_pow_pos m
theorem townO_lt (m : Nat) (l : List S43) (h : l.all (arcOk m) = true) (i : Nat) : (townO l).getD i 0 < 2 ^ m :=
  foldl_lt m l zero12 (zero12_lt m) (fun p hp => List.all_eq_true.1 h p hp) i
theorem townO_lt62 (m : Nat) (l : List S43) (hm : m ≤ 12) (h : PreOk m l l.length) (i : Nat) : (townO l).getD i 0 < 2 ^ 62 :=
  lt62_of hm (townO_lt m l (all_of_pre h) i)
theorem townO_set (l : List S43) (q i0 i1 : Nat) (hq : q = (townO l).getD i0 0) (hlt : (townO l).getD i0 0 < 2 ^ 62) (h1 : i1 < 62) (m : Nat) :
    (tnN m (townO l)).setIfInBounds (1 + i0) (.int .i64 (bits .or .i64 (q : Int) (wrap64 (2 ^ i1)))) = tnN m (addArc (townO l) ⟨i0, i1⟩) := by
  rw [wr_pow i1 h1, b_or q (2 ^ i1) (by rw [hq]; exact hlt) (Nat.pow_lt_pow_right (by decide) h1), Nat.add_comm 1 i0]
  unfold tnN
  rw [tnA_set]
  simp only [addArc, Int.toNat_natCast, ← hq, ints, List.map_set]
set_option maxHeartbeats 3200000 in
set_option maxRecDepth 100000 in
theorem of_any (n : Int) (A : Option Addr) (c : Nat) (l : List S43) (w : World) (hr : Kd.C k43 w A l.length l) (hc : l.length ≤ c) :
    Calls Tryd.prog 19 #[.int .i64 n, .slice A l.length c] w (OfPost n l w) := by
  by_cases h1 : n < 1
  · have he : ofE n l = 2 := by simp [ofE, h1]
    have HE := Aside0.mk he
    clear he
    go_enter Tryd.func19, Tryd.ntmps19
    go_wp2
    exact bodyPost_ret (results45 _ _ w.heap.size _ rfl ((Blk.new _ _ _).alloc _) rfl) rfl ⟨by rw [HE.out]; rfl, below_alloc (below_alloc (Below.refl _ _) _) _⟩
  · by_cases h2 : 12 < n
    · have he : ofE n l = 2 := by simp [ofE, h2]
      have HE := Aside0.mk he
      clear he
      go_enter Tryd.func19, Tryd.ntmps19
      go_wp2
      exact bodyPost_ret (results45 _ _ w.heap.size _ rfl ((Blk.new _ _ _).alloc _) rfl) rfl ⟨by rw [HE.out]; rfl, below_alloc (below_alloc (Below.refl _ _) _) _⟩
    · by_cases h3 : 80 < l.length
      · have he : ofE n l = 3 := by simp [ofE, h1, h2, h3]
        have HE := Aside0.mk he
        have b3 : decide (80 < (l.length : Int)) = true := by simp; omega
        clear he
        go_enter Tryd.func19, Tryd.ntmps19
        go_wp2
        exact bodyPost_ret (results45 _ _ w.heap.size _ rfl ((Blk.new _ _ _).alloc _) rfl) rfl ⟨by rw [HE.out]; rfl, below_alloc (below_alloc (Below.refl _ _) _) _⟩
      · have b3 : decide (80 < (l.length : Int)) = false := by simp; omega
        have HR := Aside0.mk hr
        clear hr
        obtain ⟨m, rfl⟩ : ∃ m : Nat, n = m := ⟨n.toNat, by omega⟩
        have hm1 : 1 ≤ m := by omega
        have hm2 : m ≤ 12 := by omega
        go_enter Tryd.func19, Tryd.ntmps19
        go_wp2
        go_loopw [26] (fun v wr => ∃ k : Nat, k ≤ l.length ∧ v = .int .i64 (k : Int) ∧ Aside0 (PreOk m l k) ∧ Aside0 (TnN wr (w.heap.size + 1) m (townO (l.take k))) ∧ Aside0 (Blk wr w.heap.size 47 (tnN 0 zero12)) ∧ Aside0 (Below w.heap.size w wr)) (fun v _ => l.length - (intOf v).toNat)
        case atStart => exact ⟨0, Nat.zero_le _, rfl, ⟨fun j hj => absurd hj (by omega)⟩, ⟨Blk.new' (by simp)⟩, ⟨(Blk.new _ _ _).alloc _⟩, ⟨below_alloc (below_alloc (Below.refl _ _) _) _⟩⟩
        case round =>
          obtain ⟨k, hk, rfl, HP, HT, HZ, HB⟩ := hrel
          by_cases hkl : k < l.length
          · obtain ⟨ad, rfl, cx, cy⟩ := at_T43 HR.out (k : Int) (by omega) (by omega)
            replace cx := (HB.out.cell (World.block_lt_of_cell? w _ cx)).trans cx
            replace cy := (HB.out.cell (World.block_lt_of_cell? w _ cy)).trans cy
            obtain ⟨x0, x1, hx⟩ : ∃ x0 x1, rd_T43 l (k : Int) = ⟨x0, x1⟩ := ⟨_, _, rfl⟩
            rw [hx] at cx cy
            simp only [Int.toNat_natCast] at cx cy
            have HX := Aside0.mk hx
            clear hx
            by_cases a1 : x0 < 0
            · have HE := Aside0.mk (show ofE m l = 2 by have := not_all (n := m) hkl (by rw [HX.out]; simp [arcOk]; omega); simp [ofE, this]; omega)
              go_wp2_with (refine wpList_store_row rfl 47 _ _ rfl w.heap.size (tnN 0 zero12) rfl rfl 47 (tnN 0 zero12) (HZ.out.alloc _) info50 rfl (tn_one _ _) ?_)
              exact bodyPost_ret (results45 _ _ w.heap.size _ rfl (Blk.row (HZ.out.alloc _) _) rfl) rfl ⟨by rw [HE.out]; rfl, gb_below_new (below_alloc HB.out _) (gb_row _ _ _) (fun g h => by cases h; exact Nat.le_refl _)⟩
            · by_cases a2 : (m : Int) ≤ x0
              · have HE := Aside0.mk (show ofE m l = 2 by have := not_all (n := m) hkl (by rw [HX.out]; simp [arcOk]; omega); simp [ofE, this]; omega)
                go_wp2_with (refine wpList_store_row rfl 47 _ _ rfl w.heap.size (tnN 0 zero12) rfl rfl 47 (tnN 0 zero12) (HZ.out.alloc _) info50 rfl (tn_one _ _) ?_)
                exact bodyPost_ret (results45 _ _ w.heap.size _ rfl (Blk.row (HZ.out.alloc _) _) rfl) rfl ⟨by rw [HE.out]; rfl, gb_below_new (below_alloc HB.out _) (gb_row _ _ _) (fun g h => by cases h; exact Nat.le_refl _)⟩
              · by_cases a3 : x1 < 0
                · have HE := Aside0.mk (show ofE m l = 2 by have := not_all (n := m) hkl (by rw [HX.out]; simp [arcOk]; omega); simp [ofE, this]; omega)
                  go_wp2_with (refine wpList_store_row rfl 47 _ _ rfl w.heap.size (tnN 0 zero12) rfl rfl 47 (tnN 0 zero12) (HZ.out.alloc _) info50 rfl (tn_one _ _) ?_)
                  exact bodyPost_ret (results45 _ _ w.heap.size _ rfl (Blk.row (HZ.out.alloc _) _) rfl) rfl ⟨by rw [HE.out]; rfl, gb_below_new (below_alloc HB.out _) (gb_row _ _ _) (fun g h => by cases h; exact Nat.le_refl _)⟩
                · by_cases a4 : (m : Int) ≤ x1
                  · have HE := Aside0.mk (show ofE m l = 2 by have := not_all (n := m) hkl (by rw [HX.out]; simp [arcOk]; omega); simp [ofE, this]; omega)
                    go_wp2_with (refine wpList_store_row rfl 47 _ _ rfl w.heap.size (tnN 0 zero12) rfl rfl 47 (tnN 0 zero12) (HZ.out.alloc _) info50 rfl (tn_one _ _) ?_)
                    exact bodyPost_ret (results45 _ _ w.heap.size _ rfl (Blk.row (HZ.out.alloc _) _) rfl) rfl ⟨by rw [HE.out]; rfl, gb_below_new (below_alloc HB.out _) (gb_row _ _ _) (fun g h => by cases h; exact Nat.le_refl _)⟩
                  · obtain ⟨i0, rfl⟩ : ∃ i0 : Nat, x0 = i0 := ⟨x0.toNat, by omega⟩
                    obtain ⟨i1, rfl⟩ : ∃ i1 : Nat, x1 = i1 := ⟨x1.toNat, by omega⟩
                    have hsn := townO_snoc l k hkl
                    have HOK := Aside0.mk (HP.out.succ (by rw [HX.out]; simp [arcOk]; omega))
                    have hto := townO_len (l.take k)
                    have co := HT.out.cellS i0 (by rw [hto]; omega)
                    rw [Nat.add_comm i0 1] at co
                    have p0 : (0 : Int) ≤ i0 := by omega
                    have p1 : (i0 : Int) < 12 := by omega
                    have p2 : (0 : Int) ≤ i1 := by omega
                    rw [HX.out] at hsn
                    have HS := Aside0.mk hsn
                    clear hsn
                    have hne : ¬ (w.heap.size + 1 = wr.heap.size) := fun e => by have := Blk.lt HT.out; omega
                    have d0 : (wr.alloc (.cells #[.int .i64 i0, .int .i64 i1] 64)).cell? ⟨wr.heap.size, 0, none⟩ = some (.int .i64 i0) := (Blk.new wr 64 _).cell 0
                    have d1 : (wr.alloc (.cells #[.int .i64 i0, .int .i64 i1] 64)).cell? ⟨wr.heap.size, 1, none⟩ = some (.int .i64 i1) := (Blk.new wr 64 _).cell 1
                    have HT1 := Aside0.mk (Blk.alloc HT.out (.cells #[.int .i64 i0, .int .i64 i1] 64))
                    have HZ1 := Aside0.mk (Blk.alloc HZ.out (.cells #[.int .i64 i0, .int .i64 i1] 64))
                    have HB1 := Aside0.mk (below_alloc HB.out (.cells #[.int .i64 i0, .int .i64 i1] 64))
                    have d2 : (wr.alloc (.cells #[.int .i64 i0, .int .i64 i1] 64)).cell? ⟨w.heap.size + 1, 1 + i0, none⟩ = some (.int .i64 ((townO (l.take k)).getD i0 0 : Nat)) := (World.cell?_alloc_lt _ _ _ (by have : w.heap.size + 1 < wr.heap.size := Blk.lt (t := 47) HT.out; exact this)).trans co
                    have d3 : (wr.alloc (.cells #[.int .i64 i0, .int .i64 i1] 64)).frozen? ⟨w.heap.size + 1, 1 + i0, none⟩ = false := Blk.frozen HT1.out _
                    obtain ⟨q, hq⟩ : ∃ q, q = (townO (l.take k)).getD i0 0 := ⟨_, rfl⟩
                    rw [← hq] at d2
                    have HS2 := Aside0.mk (townO_set (l.take k) q i0 i1 hq (townO_lt62 m (l.take k) hm2 (fun j hj => by rw [rd_take l k j (by rw [List.length_take] at hj; omega)]; exact HP.out j (by rw [List.length_take] at hj; omega)) i0) (by omega) m)
                    clear hq
                    go_wp2
                    generalize wr.alloc (.cells #[.int .i64 i0, .int .i64 i1] 64) = W at *
                    generalize wr.heap.size = g8 at *
                    clear co cx cy hne HT HZ HB
                    refine wp_still_tail 11 (by kernel_rfl) (by kernel_rfl) ?_
                    simp only [List.take_succ_cons, List.take_zero, List.drop_succ_cons, List.drop_zero]
                    iterate 11 (refine wpStill_step (fun K hK => ?_); go_simp; refine hK _ ?_; clear hK K)
                    refine wpStill_nil ?_
                    go_wp2
                    go_roundw
                    case rel =>
                      exact ⟨k + 1, by omega, by go_num, HOK, ⟨by rw [HS.out]; have := Blk.set_ HT1.out (1 + i0) (.int .i64 (bits .or .i64 (q : Int) (wrap64 (2 ^ i1)))); have e2 := HS2.out; unfold tnN at e2; rw [e2] at this; exact this⟩, ⟨Blk.far HZ1.out (by simp) _⟩, ⟨below_drew (gb_below_new HB1.out (gb_set _ _ _) (fun g h => by cases h; simp))⟩⟩
                    case measure => simp [intOf]; omega
          · obtain rfl : k = l.length := by omega
            have HE := Aside0.mk (show ofE m l = 0 by have := all_of_pre HP.out; simp [ofE, this]; omega)
            have htk : townO (l.take l.length) = townO l := by rw [List.take_length]
            rw [htk] at HT
            clear htk
            go_wp2_with (first | (refine wpList_store_row rfl 47 _ _ rfl w.heap.size (tnN m (townO l)) rfl rfl 47 (tnN 0 zero12) HZ.out (tn_info _ _ (townO_len l)) (tn_old _ _ _ _ rfl (townO_len l)) (tn_one _ _) ?_) | (refine wpList_load_row rfl 47 _ rfl (w.heap.size + 1) rfl 47 (tnN m (townO l)) (0, 0) _ HT.out Tryd.underlying47 rfl (tn_info _ _ (townO_len l)) ?_))
            refine bodyPost_ret (results45 _ _ w.heap.size (tnN m (townO l)) rfl (Blk.row HZ.out _) (by rw [tnN, tnA_size, ints_length, townO_len])) rfl ⟨by rw [HE.out]; rfl, gb_below_new HB.out (gb_row _ _ _) (fun g h => by cases h; exact Nat.le_refl _)⟩
end Go.Proofs.YtmobefgnkiboaaaDoor.Sh
namespace Go.Proofs.YtmobefgnkiboaaaDoor.Sh
open Go.RowKit Go.Proofs.YtmobefgnkiboaaaDoorW.PrintWords Go.Proofs.YtmobefgnkiboaaaDoorW.PrintLast Go.Proofs.YtmobefgnkiboaaaDoorW.PrintMore
set_option linter.unusedVariables false
structure HasC (w : World) (f : FuncId) (cap : Array Value) (has : Nat → Bool) : Prop where
  enter : ∀ (args : Array Value) (w : World), (callFunc f args).run Tryd.prog w = .ok (.enter f args) w
  calls : ∀ s, s < 4096 → ∀ w', Below w.heap.size w w' → Calls Tryd.prog f (#[.int .i64 (s : Nat)] ++ cap) w' (fun e w'' => e = .returned (.bool (has s)) ∧ Below w'.heap.size w' w'')
theorem HasC.later {w w1 : World} {f : FuncId} {cap : Array Value} {p : Nat → Bool} (h : HasC w f cap p) (hb : Below w.heap.size w w1) : HasC w1 f cap p :=
  ⟨h.enter, fun i hi w' hw => h.calls i hi w' (below_then hb hb.size hw)⟩
def kerB (n : Nat) (o : List Nat) (s p : Nat) : Bool := AllB n (indB o s) (absB o s p)
set_option maxHeartbeats 1600000 in
set_option maxRecDepth 100000 in
theorem kernel1_any (n : Nat) (o : List Nat) (s g : Nat) (w : World) (ok : Okt n o) (hs : s < 4096) (ht : TnN w g n o) :
    Calls Tryd.prog 31 #[.int .i64 s, .pointer (some ⟨g, 0, none⟩)] w fun e w' => e = .returned (.bool (kerB n o s (2 ^ n - 1))) ∧ Below w.heap.size w w' := by
  have hT := Blk.drew ht
  have hb0 : Below w.heap.size w w.drew := below_drew (Below.refl _ _)
  have n12 := ok.n12
  have hp : 2 ^ n - 1 < 2 ^ 62 := by have : 2 ^ n < 2 ^ 62 := Nat.pow_lt_pow_right (by decide) (by omega); omega
  go_enter Tryd.func31, Tryd.ntmps31
  go_wp2
  refine wp_region_held (S := fun wx => TnN wx g n o ∧ Below w.heap.size w wx) (by kernel_rfl) ?_
  refine wpAnyH_take (i := 0) (v := .agg (tnN n o)) rfl (by kernel_rfl) (by kernel_rfl) (by kernel_rfl) (fun _ _ _ h => h) (yi_at rfl fun wx h => ex_load_tn rfl wx g n o rfl h.1 ok.len) ⟨hT, hb0⟩ ?_
  refine wpAnyH_take (i := 1) (v := .int .i64 s) rfl (by kernel_rfl) (by kernel_rfl) (by kernel_rfl) (fun _ _ _ h => h) (yi_any rfl fun wx => rfl) ⟨hT, hb0⟩ ?_
  refine wpAnyH_take (i := 2) (v := .agg (tnN n o)) rfl (by kernel_rfl) (by kernel_rfl) (by kernel_rfl) (fun _ _ _ h => h) (yi_at rfl fun wx h => ex_load_tn rfl wx g n o rfl h.1 ok.len) ⟨hT, hb0⟩ ?_
  refine ro_one (i := 3) (by kernel_rfl) (ro_call (f := 26) (args := #[.agg (tnN n o)]) rfl rfl (by kernel_rfl) ?_)
  refine (everybody_any n o _ n12).mono ?_
  rintro e w1 ⟨rfl, hb1⟩
  have hb01 := below_then hb0 hb0.size hb1
  refine ⟨_, rfl, ⟨Blk.later hT hb1, hb01⟩, ?_⟩
  refine ro_one (i := 4) (by kernel_rfl) (ro_call (f := 27) (args := #[.agg (tnN n o), .int .i64 s, .int .i64 (2 ^ n - 1 : Nat)]) rfl rfl (by kernel_rfl) ?_)
  refine (kernel_any n o s (2 ^ n - 1) _ ok (by omega) hp).mono ?_
  rintro e w2 ⟨rfl, hb2⟩
  have hb02 := below_then hb01 hb01.size hb2
  refine ⟨_, rfl, ⟨Blk.later (Blk.later hT hb1) hb2, hb02⟩, ?_⟩
  refine ro_one (i := 5) (by kernel_rfl) (ro_val (v := .bool (kerB n o s (2 ^ n - 1))) (w' := w2) rfl rfl (by kernel_rfl) ?_)
  refine ⟨⟨Blk.later (Blk.later hT hb1) hb2, hb02⟩, ?_⟩
  refine wpAnyH_done (by kernel_rfl) ?_ _
  go_wp2
  go_ret
  exact ⟨rfl, hb02⟩
structure FirstI (gout gh base : Nat) (w0 : World) (f : FuncId) (cap : Array Value) (has : Nat → Bool) (st : List Nat) (w : World) : Prop where
  out : ∃ v, Blk w gout 23 #[v] ∧ Kd.R (Kd.int .i64) 3 w base (fun _ => True) v (ints st)
  bh : Blk w gh 66 #[.func (.func f) #[] cap]
  ne : gh ≠ gout
  hc : HasC w0 f cap has
  bel : Below base w0 w
  size : base ≤ w.heap.size
  b1 : base ≤ gout
  b0 : base = w0.heap.size
theorem FirstI.keep {gout gh base : Nat} {w0 : World} {f : FuncId} {cap : Array Value} {has : Nat → Bool} {st : List Nat} {w w' : World} (h : FirstI gout gh base w0 f cap has st w) (hg : w.grownBy w' none) : FirstI gout gh base w0 f cap has st w' := by
  obtain ⟨⟨v, hb, hr⟩, h2, h3, h4, h5, h6, h7, h8⟩ := h
  exact ⟨⟨v, hb.gb hg (by simp), Kd.R_below hr (below_gb hg)⟩, h2.gb hg (by simp), h3, h4, h5.grown hg h6 (fun k hk => by cases hk), Nat.le_trans h6 hg.size, h7, h8⟩
set_option maxHeartbeats 1600000 in
set_option maxRecDepth 100000 in
theorem first1_any (gout gh base : Nat) (w0 : World) (f : FuncId) (cap : Array Value) (has : Nat → Bool) (st : List Nat) (s : Nat) (w : World) (hs : s < 4096) (h : FirstI gout gh base w0 f cap has st w) :
    Calls Tryd.prog 47 #[.int .i64 s, .pointer (some ⟨gout, 0, none⟩), .pointer (some ⟨gh, 0, none⟩)] w
      (fun e w' => e = .returned (.bool (has s)) ∧ FirstI gout gh base w0 f cap has (memL s) w' ∧ w.grownBy w' (some gout)) := by
  have HH := Aside0.mk h
  clear h
  go_enter Tryd.func47, Tryd.ntmps47
  go_wp2_with fail
  refine (members_any s _ hs).mono ?_
  rintro e w1 ⟨v, rfl, hr, hb⟩
  obtain ⟨⟨v0, hb0, hr0⟩, h2, h3, h4, h5, h6, h7, h8⟩ := HH.out
  obtain ⟨A, c, rfl, hlc, hC⟩ := Kd.R_reads hr
  have k1 := hb0.later hb
  have k2 := h2.later hb
  have c1 : w1.cell? ⟨gout, 0, none⟩ = some v0 := k1.cell 0
  have c2 : w1.frozen? ⟨gout, 0, none⟩ = false := k1.frozen 0
  have k3 := Blk.set_ k1 0 (.slice A (ints (mem12 s 0)).length c)
  have k4 := Blk.far k2 (p := ⟨gout, 0, none⟩) h3 (.slice A (ints (mem12 s 0)).length c)
  have c3 : (w1.setCell ⟨gout, 0, none⟩ (.slice A (ints (mem12 s 0)).length c)).cell? ⟨gh, 0, none⟩ = some (.func (.func f) #[] cap) := k4.cell 0
  have g1 : w.grownBy (w1.setCell ⟨gout, 0, none⟩ (.slice A (ints (mem12 s 0)).length c)) (some gout) := gb_trans (gb_below hb) (gb_set _ _ _)
  have b1 : Below base w0 (w1.setCell ⟨gout, 0, none⟩ (.slice A (ints (mem12 s 0)).length c)) := h5.grown g1 h6 (fun k hk => by cases hk; exact h7)
  have r1 : Kd.R (Kd.int .i64) 3 (w1.setCell ⟨gout, 0, none⟩ (.slice A (ints (mem12 s 0)).length c)) base (fun _ => True) (.slice A (ints (mem12 s 0)).length c) (ints (memL s)) :=
    Kd.R_lower (Kd.R_set hr k1 (by decide) 0 _) h6
  have E0 := h4.enter
  have KK := Aside0.mk (And.intro k3 (And.intro k4 (And.intro g1 (And.intro b1 r1))))
  have HC := Aside0.mk h4
  have H6 := Aside0.mk (Nat.le_trans h6 g1.size)
  have H7 := Aside0.mk h7
  have H8 := Aside0.mk h8
  have H3 := Aside0.mk h3
  clear k3 k4 g1 b1 r1 k1 k2 hC hr hb h2 h3 h4 h5 h6 h7 h8 hb0 hr0 HH
  go_wp2_with fail
  have hbb := KK.out.2.2.2.1
  rw [H8.out] at hbb
  refine (HC.out.calls s hs _ hbb).mono ?_
  rintro e w2 ⟨rfl, hb2⟩
  have FB := Aside0.mk hb2
  clear hb2 hbb
  go_wp2_with fail
  go_ret
  obtain ⟨k3, k4, g1, b1, r1⟩ := KK.out
  exact ⟨rfl, FirstI.keep ⟨⟨_, k3, r1⟩, k4, H3.out, HC.out, b1, H6.out, H7.out, H8.out⟩ (gb_below FB.out), gb_trans g1 (gb_below FB.out)⟩
def lpF (has : Nat → Bool) : List Nat → Nat → Option Nat
  | [], _ => none
  | i :: rest, s => if has (s ||| 2 ^ i) then some (s ||| 2 ^ i) else
    match lpF has rest (s ||| 2 ^ i) with
    | some x => some x
    | none => lpF has rest s
def onF (has : Nat → Bool) (l : List Nat) (s : Nat) : Option Nat := if has s then some s else lpF has l s
def visF (has : Nat → Bool) (_ : List Nat) (s : Nat) : Bool × List Nat := (has s, memL s)
theorem lpL_lpF (has : Nat → Bool) : ∀ (l : List Nat) (s : Nat) (st : List Nat), ∃ st', lpL (visF has) l s st = (match lpF has l s with | some x => (true, memL x) | none => (false, st'))
  | [], _, st => ⟨st, rfl⟩
  | i :: rest, s, st => by
    simp only [lpL, lpF]
    by_cases h : has (s ||| 2 ^ i) = true
    · exact ⟨st, by simp [h, visF]⟩
    · obtain ⟨st1, h1⟩ := lpL_lpF has rest (s ||| 2 ^ i) (memL (s ||| 2 ^ i))
      have h' : has (s ||| 2 ^ i) = false := by simpa using h
      simp only [visF, h', Bool.false_eq_true, if_false]
      change ∃ st', (if (lpL (visF has) rest (s ||| 2 ^ i) (memL (s ||| 2 ^ i))).1 = true then (true, (lpL (visF has) rest (s ||| 2 ^ i) (memL (s ||| 2 ^ i))).2) else lpL (visF has) rest s (lpL (visF has) rest (s ||| 2 ^ i) (memL (s ||| 2 ^ i))).2) = _
      rw [h1]
      cases hx : lpF has rest (s ||| 2 ^ i)
      · obtain ⟨st2, h2⟩ := lpL_lpF has rest s st1
        simp only [Bool.false_eq_true, if_false]
        exact ⟨st2, h2⟩
      · exact ⟨st, by simp⟩
theorem onL_onF (has : Nat → Bool) (l : List Nat) (s : Nat) (st : List Nat) : ∃ st', onL (visF has) l s st = (match onF has l s with | some x => (true, memL x) | none => (false, st')) := by
  by_cases h : has s = true
  · exact ⟨st, by simp [onL, onF, visF, h]⟩
  · have h' : has s = false := by simpa using h
    obtain ⟨st1, h1⟩ := lpL_lpF has l s (memL s)
    refine ⟨st1, ?_⟩
    have : onL (visF has) l s st = lpL (visF has) l s (memL s) := by simp [onL, visF, h']
    rw [this, h1]
    simp [onF, h']
def FirstR (w : World) (r : Option Nat) (e : Ending) (w' : World) : Prop :=
  match r with
  | some x => ∃ v, e = .returned (.tuple #[v, .int .i64 0]) ∧ Kd.R (Kd.int .i64) 3 w' w.heap.size (fun _ => True) v (ints (memL x)) ∧ Below w.heap.size w w'
  | none => e = .returned (.tuple #[.slice none 0 0, .int .i64 10]) ∧ Below w.heap.size w w'
def firstS (has : Nat → Bool) (n : Nat) : Option Nat := onF has (memL (2 ^ n - 1)) 0
theorem cf85 (args : Array Value) (w : World) : (callFunc 47 args).run Tryd.prog w = .ok (.enter 47 args) w := by kernel_rfl
theorem pow12_lt (n : Nat) (h : n ≤ 12) : 2 ^ n - 1 < 4096 := by have : 2 ^ n ≤ 2 ^ 12 := Nat.pow_le_pow_right (by decide) h; have := Nat.two_pow_pos n; omega
set_option maxHeartbeats 1600000 in
set_option maxRecDepth 100000 in
theorem first_any (n : Nat) (o : List Nat) (f : FuncId) (cap : Array Value) (has : Nat → Bool) (w : World) (ok : Okt n o) (hc : HasC w f cap has) :
    Calls Tryd.prog 30 #[.agg (tnN n o), .func (.func f) #[] cap] w (FirstR w (firstS has n)) := by
  have hmf : ∀ (fn : Fn) (first cap : Array Value) (w : World), (Instr.makeFunc fn first cap).run Tryd.prog w = .ok (.func fn first cap) w := fun _ _ _ _ => rfl
  have n12 := ok.n12
  have hpn := pow12_lt n n12
  have V : Visit (FirstI (w.heap.size + 1 + 1) (w.heap.size + 1) w.heap.size w f cap has) (some (w.heap.size + 1 + 1)) 47 #[.pointer (some ⟨w.heap.size + 1 + 1, 0, none⟩), .pointer (some ⟨w.heap.size + 1, 0, none⟩)] (visF has) :=
    ⟨cf85, fun st w1 w2 h hg => h.keep hg, fun st s w1 hs h => first1_any _ _ _ _ _ _ _ st s w1 hs h⟩
  obtain ⟨st', hon⟩ := onL_onF has (mem12 (2 ^ n - 1) 0) 0 []
  have hfs : firstS has n = onF has (mem12 (2 ^ n - 1) 0) 0 := rfl
  rw [hfs]
  clear hfs
  generalize onF has (mem12 (2 ^ n - 1) 0) 0 = r at *
  have HO := Aside0.mk hon
  have HC := Aside0.mk hc
  have HV := Aside0.mk V
  have HT : Aside0 (TnN ((w.alloc (.cells (tnN n o) 47)).alloc (.cells #[.func (.func f) #[] cap] 66) |>.alloc (.cells #[.slice none 0 0] 23)) w.heap.size n o) := ⟨((Blk.new w 47 (tnN n o)).alloc _).alloc _⟩
  clear hon hc V
  go_enter Tryd.func30, Tryd.ntmps30
  go_wp2_with (first | (refine wpList_load_row rfl 47 _ rfl w.heap.size rfl 47 (tnN n o) (0, 0) _ HT.out Tryd.underlying47 rfl (tn_info _ _ ok.len) ?_) | (go_at_call 26; refine (everybody_any n o _ n12).mono ?_; rintro e w1 ⟨rfl, hb1⟩))
  have HW := Aside0.mk (below_then (below_alloc (below_alloc (below_alloc (Below.refl _ w) (.cells (tnN n o) 47)) (.cells #[.func (.func f) #[] cap] 66)) (.cells #[.slice none 0 0] 23)) (by simp; omega) hb1)
  have hI : FirstI (w.heap.size + 1 + 1) (w.heap.size + 1) w.heap.size w f cap has [] w1 :=
    ⟨⟨.slice none 0 0, (Blk.new' (by simp)).later hb1, Kd.R_nil _ _ _ _ _⟩, ((Blk.new' (by simp)).alloc _).later hb1, by omega, HC.out, HW.out, HW.out.size, by omega, rfl⟩
  refine (each_any HV.out (2 ^ n - 1) hpn [] _ hI (fun g h => by cases h; have := hb1.size; simp at this; omega)).mono ?_
  rintro e w2 ⟨rfl, hI2, hg2⟩
  rw [HO.out] at hI2 ⊢
  have HW2 := Aside0.mk (HW.out.grown hg2 HW.out.size (fun k hk => by cases hk; omega))
  clear hg2 hI hb1 HT HO
  cases r
  · clear hI2
    go_wp2_with fail
    go_ret2
    exact ⟨rfl, HW2.out⟩
  · obtain ⟨⟨v, hb, hr⟩, _⟩ := hI2
    have HR := Aside0.mk hr
    have c1 := hb.cell 0
    simp only [List.getElem?_toArray, List.getElem?_cons_zero] at c1
    clear hb hr
    go_wp2_with fail
    go_ret2
    exact ⟨v, rfl, HR.out, HW2.out⟩
end Go.Proofs.YtmobefgnkiboaaaDoor.Sh
namespace Go.Proofs.YtmobefgnkiboaaaDoor.Sh
open Go.RowKit Go.Proofs.YtmobefgnkiboaaaDoorW.PrintWords Go.Proofs.YtmobefgnkiboaaaDoorW.PrintLast Go.Proofs.YtmobefgnkiboaaaDoorW.PrintMore
set_option linter.unusedVariables false
theorem ofE_ok {n : Int} {l : List S43} (h : ofE n l = 0) : 1 ≤ n ∧ n ≤ 12 ∧ l.length ≤ 80 ∧ l.all (arcOk n) = true := by
  unfold ofE at h
  split at h
  · omega
  · split at h
    · omega
    · split at h
      · exact ⟨by omega, by omega, by omega, by assumption⟩
      · omega
theorem okt_of {n : Int} {l : List S43} (h : ofE n l = 0) : Okt n.toNat (townO l) := by
  obtain ⟨h1, h2, h3, h4⟩ := ofE_ok h
  obtain ⟨m, rfl⟩ : ∃ m : Nat, n = m := ⟨n.toNat, by omega⟩
  rw [Int.toNat_natCast]
  exact ⟨by omega, by omega, townO_len l, townO_lt m l h4⟩
def ofA (n : Int) (l : List S43) : Array Value := if ofE n l = 0 then tnN n.toNat (townO l) else tnN 0 zero12
theorem ofA_size (n : Int) (l : List S43) : (ofA n l).size = 13 := by
  unfold ofA; split
  · exact tn_size _ _ (townO_len l)
  · rfl
theorem ofA_one (n : Int) (l : List S43) : (ofA n l).all (·.oneCell') = true := by
  unfold ofA; split <;> exact tn_one _ _
theorem of_A (n : Int) (A : Option Addr) (c : Nat) (l : List S43) (w : World) (hr : Kd.C k43 w A l.length l) (hc : l.length ≤ c) :
    Calls Tryd.prog 19 #[.int .i64 n, .slice A l.length c] w fun e w' => e = .returned (.tuple #[.agg (ofA n l), .int .i64 (ofE n l)]) ∧ Below w.heap.size w w' := of_any n A c l w hr hc
def KernelPost (n : Int) (l : List S43) (w : World) (e : Ending) (w' : World) : Prop :=
  if ofE n l = 0 then FirstR w (firstS (fun s => kerB n.toNat (townO l) s (2 ^ n.toNat - 1)) n.toNat) e w'
  else e = .returned (.tuple #[.slice none 0 0, .int .i64 (ofE n l)]) ∧ Below w.heap.size w w'
theorem cf55 (args : Array Value) (w : World) : (callFunc 31 args).run Tryd.prog w = .ok (.enter 31 args) w := by kernel_rfl
set_option maxHeartbeats 1600000 in
set_option maxRecDepth 100000 in
theorem Kernel_any (n : Int) (A : Option Addr) (c : Nat) (l : List S43) (w : World) (hr : Kd.C k43 w A l.length l) (hc : l.length ≤ c) :
    Calls Tryd.prog 14 #[.int .i64 n, .slice A l.length c] w (KernelPost n l w) := by
  have hmf : ∀ (fn : Fn) (first cap : Array Value) (w : World), (Instr.makeFunc fn first cap).run Tryd.prog w = .ok (.func fn first cap) w := fun _ _ _ _ => rfl
  have HO := Aside0.mk (of_A n A c l w hr hc)
  have HZ := Aside0.mk (ofA_size n l)
  have H1 := Aside0.mk (ofA_one n l)
  clear hr hc
  by_cases he : ofE n l = 0
  · have ok := okt_of he
    have hA : ofA n l = tnN n.toNat (townO l) := by rw [ofA, if_pos he]
    have hK : KernelPost n l w = FirstR w (firstS (fun s => kerB n.toNat (townO l) s (2 ^ n.toNat - 1)) n.toNat) := by funext e w'; simp [KernelPost, he]
    obtain ⟨r, hr0⟩ : ∃ r, firstS (fun s => kerB n.toNat (townO l) s (2 ^ n.toNat - 1)) n.toNat = r := ⟨_, rfl⟩
    rw [hK, hr0]
    have HR0 := Aside0.mk hr0
    clear hr0
    rw [hA] at HO HZ H1
    rw [he] at HO
    have HK := Aside0.mk ok
    clear he hA ok hK
    go_enter Tryd.func14, Tryd.ntmps14
    go_wp2_with fail
    refine HO.out.mono ?_
    rintro e w1 ⟨rfl, hb⟩
    have HB := Aside0.mk hb
    clear hb HO
    have HT : Aside0 (TnN (w1.alloc (.cells (tnN n.toNat (townO l)) 47)) w1.heap.size n.toNat (townO l)) := ⟨Blk.new _ _ _⟩
    go_wp2_with (first | (refine wpList_store_row rfl 47 _ _ rfl w1.heap.size (tnN n.toNat (townO l)) rfl rfl 47 (tnN 0 zero12) (heap_alloc_new w1 _) (by rw [info50, HZ.out]) (by rw [HZ.out]; rfl) H1.out ?_; rw [World.setRow_alloc_new]) | (refine wpList_load_row rfl 47 _ rfl w1.heap.size rfl 47 (tnN n.toNat (townO l)) (0, 0) _ HT.out Tryd.underlying47 rfl (by rw [info50, HZ.out]) ?_))
    have HB2 := Aside0.mk (below_alloc HB.out (.cells (tnN n.toNat (townO l)) 47))
    have HH : HasC (w1.alloc (.cells (tnN n.toNat (townO l)) 47)) 31 #[.pointer (some ⟨w1.heap.size, 0, none⟩)] (fun s => kerB n.toNat (townO l) s (2 ^ n.toNat - 1)) := ⟨cf55, fun s hs w2 hw2 => kernel1_any n.toNat (townO l) s w1.heap.size w2 HK.out hs (Blk.later HT.out hw2)⟩
    refine (first_any n.toNat (townO l) 31 #[.pointer (some ⟨w1.heap.size, 0, none⟩)] (fun s => kerB n.toNat (townO l) s (2 ^ n.toNat - 1)) _ HK.out HH).mono ?_
    intro e w2 h2
    rw [HR0.out] at h2
    clear HR0 HH
    cases r with
    | none =>
      obtain ⟨rfl, hb2⟩ := h2
      have HB3 := Aside0.mk (below_then HB2.out HB2.out.size hb2)
      clear hb2
      go_wp2_with fail
      go_ret2
      exact ⟨rfl, HB3.out⟩
    | some x =>
      obtain ⟨v, rfl, hr2, hb2⟩ := h2
      have HB3 := Aside0.mk (below_then HB2.out HB2.out.size hb2)
      have HR := Aside0.mk (Kd.R_lower hr2 HB2.out.size)
      clear hb2 hr2
      go_wp2_with fail
      go_ret2
      exact ⟨v, rfl, HR.out, HB3.out⟩
  · have hK : KernelPost n l w = fun e w' => e = .returned (.tuple #[.slice none 0 0, .int .i64 (ofE n l)]) ∧ Below w.heap.size w w' := by funext e w'; simp [KernelPost, he]
    rw [hK]
    have hb : (ofE n l != 0) = true := bne_iff_ne.2 he
    have hb' : (ofE n l == 0) = false := beq_eq_false_iff_ne.2 he
    clear hK he
    generalize ofE n l = er at *
    go_enter Tryd.func14, Tryd.ntmps14
    go_wp2_with fail
    refine HO.out.mono ?_
    rintro e w1 ⟨rfl, hb⟩
    have HB := Aside0.mk hb
    clear hb HO
    go_wp2_with (refine wpList_store_row rfl 47 _ _ rfl w1.heap.size (ofA n l) rfl rfl 47 (tnN 0 zero12) (heap_alloc_new w1 _) (by rw [info50, HZ.out]) (by rw [HZ.out]; rfl) H1.out ?_)
    go_ret2
    exact ⟨rfl, by rw [World.setRow_alloc_new]; exact below_alloc HB.out _⟩
end Go.Proofs.YtmobefgnkiboaaaDoor.Sh
namespace Go.Proofs.YtmobefgnkiboaaaDoor.Sh
open Go.RowKit Go.Proofs.YtmobefgnkiboaaaDoorW.PrintWords Go.Proofs.YtmobefgnkiboaaaDoorW.PrintLast Go.Proofs.YtmobefgnkiboaaaDoorW.PrintMore
set_option linter.unusedVariables false
theorem kernel_b {n : Nat} {o : List Nat} {s p : Nat} {b : Bool} (hb : kerB n o s p = b) (w : World) (ok : Okt n o) (hs62 : s < 2 ^ 62) (hp62 : p < 2 ^ 62) :
    Calls Tryd.prog 27 #[.agg (tnN n o), .int .i64 s, .int .i64 p] w fun e w' => e = .returned (.bool b) ∧ Below w.heap.size w w' := hb ▸ kernel_any n o s p w ok hs62 hp62
def manyK (n : Nat) (o : List Nat) (k : Nat) : Nat := ((List.range k).filter fun s => kerB n o s (2 ^ n - 1)).length
theorem manyK_succ (n : Nat) (o : List Nat) (k : Nat) : manyK n o (k + 1) = manyK n o k + if kerB n o k (2 ^ n - 1) then 1 else 0 := by
  unfold manyK
  rw [List.range_succ, List.filter_append]
  cases h : kerB n o k (2 ^ n - 1) <;> simp [h]
theorem manyK_le (n : Nat) (o : List Nat) (k : Nat) : manyK n o k ≤ k := by
  unfold manyK
  have := List.length_filter_le (fun s => kerB n o s (2 ^ n - 1)) (List.range k)
  simpa using this
def KernelsPost (n : Int) (l : List S43) (w : World) (e : Ending) (w' : World) : Prop :=
  e = .returned (.tuple #[.int .i64 (if ofE n l = 0 then (manyK n.toNat (townO l) (2 ^ n.toNat) : Int) else 0), .int .i64 (ofE n l)]) ∧ Below w.heap.size w w'
set_option maxHeartbeats 3200000 in
set_option maxRecDepth 100000 in
theorem Kernels_any (n : Int) (A : Option Addr) (c : Nat) (l : List S43) (w : World) (hr : Kd.C k43 w A l.length l) (hc : l.length ≤ c) :
    Calls Tryd.prog 9 #[.int .i64 n, .slice A l.length c] w (KernelsPost n l w) := by
  have HO := Aside0.mk (of_A n A c l w hr hc)
  have HZ := Aside0.mk (ofA_size n l)
  have H1 := Aside0.mk (ofA_one n l)
  clear hr hc
  by_cases he : ofE n l = 0
  · have ok := okt_of he
    have hA : ofA n l = tnN n.toNat (townO l) := by rw [ofA, if_pos he]
    have hK : KernelsPost n l w = fun e w' => e = .returned (.tuple #[.int .i64 (manyK n.toNat (townO l) (2 ^ n.toNat) : Nat), .int .i64 0]) ∧ Below w.heap.size w w' := by funext e w'; simp [KernelsPost, he]
    rw [hK]
    rw [hA] at HO HZ H1
    rw [he] at HO
    have HK := Aside0.mk ok
    have n12 := ok.n12
    have hpn := pow12_lt n.toNat n12
    have hp0 : 0 < 2 ^ n.toNat := Nat.two_pow_pos _
    clear he hA ok hK
    generalize townO l = o at *
    generalize n.toNat = m at *
    obtain ⟨N, hN⟩ : ∃ N : Nat, 2 ^ m = N + 1 := ⟨2 ^ m - 1, by omega⟩
    have e1 : 2 ^ m - 1 = N := by omega
    have HM : ∀ k, manyK m o (k + 1) = manyK m o k + if kerB m o k N then 1 else 0 := fun k => by rw [manyK_succ, e1]
    have HEv := Aside0.mk (fun w => e1 ▸ everybody_any m o w n12)
    have hN12 : N < 4096 := by omega
    have HMM := Aside0.mk HM
    clear HM e1
    rw [hN]
    clear hN hpn hp0
    go_enter Tryd.func9, Tryd.ntmps9
    go_wp2_with fail
    refine HO.out.mono ?_
    rintro e w1 ⟨rfl, hb⟩
    have HB := Aside0.mk hb
    clear hb HO
    have HT : Aside0 (TnN (w1.alloc (.cells (tnN m o) 47)) w1.heap.size m o) := ⟨Blk.new _ _ _⟩
    go_wp2_with (first | (refine wpList_store_row rfl 47 _ _ rfl w1.heap.size (tnN m o) rfl rfl 47 (tnN 0 zero12) (heap_alloc_new w1 _) (by rw [info50, HZ.out]) (by rw [HZ.out]; rfl) H1.out ?_; rw [World.setRow_alloc_new]) | (refine wpList_load_row rfl 47 _ rfl w1.heap.size rfl 47 (tnN m o) (0, 0) _ HT.out Tryd.underlying47 rfl (by rw [info50, HZ.out]) ?_))
    refine (HEv.out _).mono ?_
    rintro e w2 ⟨rfl, hb2⟩
    have HB2 := Aside0.mk (below_then (below_alloc HB.out (.cells (tnN m o) 47)) (below_alloc HB.out (.cells (tnN m o) 47)).size hb2)
    have HT2 := Aside0.mk (Blk.later HT.out hb2)
    clear hb2
    go_wp2_with fail
    go_loopw [8, 22] (fun v8 v wr => ∃ k : Nat, k ≤ N + 1 ∧ v = .int .i64 (k : Int) ∧ v8 = .int .i64 (manyK m o k : Nat) ∧ Aside0 (TnN wr w1.heap.size m o) ∧ Aside0 (Below w.heap.size w wr)) (fun _ v _ => N + 1 - (intOf v).toNat)
    case atStart => exact ⟨0, Nat.zero_le _, rfl, rfl, HT2, HB2⟩
    case round =>
      clear HT2 HB2
      obtain ⟨k, hk, rfl, rfl, HT3, HB3⟩ := hrel
      have hmk := manyK_le m o k
      by_cases hkn : k < N + 1
      · have hs := HMM.out k
        have hT := Aside0.mk (Blk.drew HT3.out)
        have hb0 := Aside0.mk (below_drew HB3.out)
        cases hb : kerB m o k N
        · rw [hb, if_neg (by simp)] at hs
          have HS := Aside0.mk hs
          have HQ := Aside0.mk hb
          clear hs hb
          go_wp2_with fail
          refine wp_region_held (S := fun wx => TnN wx w1.heap.size m o ∧ Below w.heap.size w wx) (by kernel_rfl) ?_
          refine wpAnyH_take (i := 0) (v := .agg (tnN m o)) rfl (by kernel_rfl) (by kernel_rfl) (by kernel_rfl) (fun _ _ _ h => h) (yi_at rfl fun wx h => ex_load_tn rfl wx w1.heap.size m o rfl h.1 HK.out.len) ⟨hT.out, hb0.out⟩ ?_
          refine wpAnyH_take (i := 1) (v := .int .i64 (k : Nat)) rfl (by kernel_rfl) (by kernel_rfl) (by kernel_rfl) (fun _ _ _ h => h) (yi_any rfl fun wx => rfl) ⟨hT.out, hb0.out⟩ ?_
          refine wpAnyH_take (i := 2) (v := .agg (tnN m o)) rfl (by kernel_rfl) (by kernel_rfl) (by kernel_rfl) (fun _ _ _ h => h) (yi_at rfl fun wx h => ex_load_tn rfl wx w1.heap.size m o rfl h.1 HK.out.len) ⟨hT.out, hb0.out⟩ ?_
          refine ro_one (i := 3) (by kernel_rfl) (ro_call (f := 26) (args := #[.agg (tnN m o)]) rfl rfl (by kernel_rfl) ?_)
          refine (HEv.out _).mono ?_
          rintro e w3 ⟨rfl, hb3⟩
          have hb03 := below_then hb0.out hb0.out.size hb3
          refine ⟨_, rfl, ⟨Blk.later hT.out hb3, hb03⟩, ?_⟩
          refine ro_one (i := 4) (by kernel_rfl) (ro_call (f := 27) (args := #[.agg (tnN m o), .int .i64 (k : Nat), .int .i64 (N : Nat)]) rfl rfl (by kernel_rfl) ?_)
          refine (kernel_b HQ.out _ HK.out (by omega) (by omega)).mono ?_
          rintro e w4 ⟨rfl, hb4⟩
          have HB4 := Aside0.mk (below_then hb03 hb03.size hb4)
          have HT4 := Aside0.mk (Blk.later (Blk.later hT.out hb3) hb4)
          refine ⟨_, rfl, ⟨HT4.out, HB4.out⟩, ?_⟩
          clear hb4 hb03 hb3 hT hb0
          refine wpAnyH_done (by kernel_rfl) ?_ _
          go_wp2_with fail
          go_roundw
          case rel => exact ⟨k + 1, by omega, by go_num, by rw [HS.out]; rfl, HT4, HB4⟩
          case measure => simp [intOf]; omega
        · rw [hb, if_pos rfl] at hs
          have HS := Aside0.mk hs
          have HQ := Aside0.mk hb
          clear hs hb
          go_wp2_with fail
          refine wp_region_held (S := fun wx => TnN wx w1.heap.size m o ∧ Below w.heap.size w wx) (by kernel_rfl) ?_
          refine wpAnyH_take (i := 0) (v := .agg (tnN m o)) rfl (by kernel_rfl) (by kernel_rfl) (by kernel_rfl) (fun _ _ _ h => h) (yi_at rfl fun wx h => ex_load_tn rfl wx w1.heap.size m o rfl h.1 HK.out.len) ⟨hT.out, hb0.out⟩ ?_
          refine wpAnyH_take (i := 1) (v := .int .i64 (k : Nat)) rfl (by kernel_rfl) (by kernel_rfl) (by kernel_rfl) (fun _ _ _ h => h) (yi_any rfl fun wx => rfl) ⟨hT.out, hb0.out⟩ ?_
          refine wpAnyH_take (i := 2) (v := .agg (tnN m o)) rfl (by kernel_rfl) (by kernel_rfl) (by kernel_rfl) (fun _ _ _ h => h) (yi_at rfl fun wx h => ex_load_tn rfl wx w1.heap.size m o rfl h.1 HK.out.len) ⟨hT.out, hb0.out⟩ ?_
          refine ro_one (i := 3) (by kernel_rfl) (ro_call (f := 26) (args := #[.agg (tnN m o)]) rfl rfl (by kernel_rfl) ?_)
          refine (HEv.out _).mono ?_
          rintro e w3 ⟨rfl, hb3⟩
          have hb03 := below_then hb0.out hb0.out.size hb3
          refine ⟨_, rfl, ⟨Blk.later hT.out hb3, hb03⟩, ?_⟩
          refine ro_one (i := 4) (by kernel_rfl) (ro_call (f := 27) (args := #[.agg (tnN m o), .int .i64 (k : Nat), .int .i64 (N : Nat)]) rfl rfl (by kernel_rfl) ?_)
          refine (kernel_b HQ.out _ HK.out (by omega) (by omega)).mono ?_
          rintro e w4 ⟨rfl, hb4⟩
          have HB4 := Aside0.mk (below_then hb03 hb03.size hb4)
          have HT4 := Aside0.mk (Blk.later (Blk.later hT.out hb3) hb4)
          refine ⟨_, rfl, ⟨HT4.out, HB4.out⟩, ?_⟩
          clear hb4 hb03 hb3 hT hb0
          refine wpAnyH_done (by kernel_rfl) ?_ _
          go_wp2_with fail
          go_roundw
          case rel => exact ⟨k + 1, by omega, by go_num, by rw [HS.out]; go_num, HT4, HB4⟩
          case measure => simp [intOf]; omega
      · obtain rfl : k = N + 1 := by omega
        go_wp2_with fail
        go_ret2
        exact ⟨rfl, HB3.out⟩
  · have hK : KernelsPost n l w = fun e w' => e = .returned (.tuple #[.int .i64 0, .int .i64 (ofE n l)]) ∧ Below w.heap.size w w' := by funext e w'; simp [KernelsPost, he]
    rw [hK]
    have hb : (ofE n l != 0) = true := bne_iff_ne.2 he
    have hb' : (ofE n l == 0) = false := beq_eq_false_iff_ne.2 he
    clear hK he
    generalize ofE n l = er at *
    go_enter Tryd.func9, Tryd.ntmps9
    go_wp2_with fail
    refine HO.out.mono ?_
    rintro e w1 ⟨rfl, hb⟩
    have HB := Aside0.mk hb
    clear hb HO
    go_wp2_with (refine wpList_store_row rfl 47 _ _ rfl w1.heap.size (ofA n l) rfl rfl 47 (tnN 0 zero12) (heap_alloc_new w1 _) (by rw [info50, HZ.out]) (by rw [HZ.out]; rfl) H1.out ?_)
    go_ret2
    exact ⟨rfl, by rw [World.setRow_alloc_new]; exact below_alloc HB.out _⟩
end Go.Proofs.YtmobefgnkiboaaaDoor.Sh

