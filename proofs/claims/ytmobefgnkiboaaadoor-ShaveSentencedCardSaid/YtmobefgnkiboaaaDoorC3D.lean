/- Further parts of the same walk: contracts of the functions that the law reaches, each under the conditions that it states. -/
import Derived.Test.YtmobefgnkiboaaaDoorC3C
import Derived.WalkSpells
namespace Go.Proofs.YtmobefgnkiboaaaDoor.Sh
open Go.RowKit Go.Proofs.YtmobefgnkiboaaaDoorW.PrintWords Go.Proofs.YtmobefgnkiboaaaDoorW.PrintLast Go.Proofs.YtmobefgnkiboaaaDoorW.PrintMore
set_option linter.unusedVariables false
def ascAt (n : Nat) (l : List Int) (j : Nat) : Prop := 0 ≤ rd l j ∧ rd l j < n ∧ (0 < j → rd l ((j : Int) - 1) < rd l j)
def AscTo (n : Nat) (l : List Int) (k : Nat) : Prop := ∀ j, j < k → ascAt n l j
instance (n : Nat) (l : List Int) (j : Nat) : Decidable (ascAt n l j) := by unfold ascAt; infer_instance
instance (n : Nat) (l : List Int) (k : Nat) : Decidable (AscTo n l k) := by unfold AscTo; infer_instance
def setOf (l : List Int) : Nat := l.foldl (fun s x => s ||| 2 ^ x.toNat) 0
theorem setOf_snoc (l : List Int) (k : Nat) (h : k < l.length) : setOf (l.take (k + 1)) = setOf (l.take k) ||| 2 ^ (rd l k).toNat := by
  rw [List.take_succ_eq_append_getElem h]
  unfold setOf
  rw [List.foldl_append]
  simp [rd, h]
theorem setOf_lt (n : Nat) (l : List Int) : ∀ k, k ≤ l.length → AscTo n l k → setOf (l.take k) < 2 ^ n := by
  intro k
  induction k with
  | zero => intro _ _; simp [setOf]; exact Nat.two_pow_pos n
  | succ k ih =>
    intro hk h
    rw [setOf_snoc l k (by omega)]
    have h1 := ih (by omega) (fun j hj => h j (by omega))
    have h2 := h k (by omega)
    exact Nat.or_lt_two_pow h1 (Nat.pow_lt_pow_right (by decide) (by have := h2.1; have := h2.2.1; omega))
def listedV (n : Nat) (l : List Int) : Value := if AscTo n l l.length then .tuple #[.int .i64 (setOf l : Nat), .bool true] else .tuple #[.int .i64 0, .bool false]
theorem AscTo.succ {n : Nat} {l : List Int} {k : Nat} (h : AscTo n l k) (h1 : ascAt n l k) : AscTo n l (k + 1) := fun j hj => by
  rcases Nat.lt_or_ge j k with hlt | hge
  · exact h j hlt
  · obtain rfl : j = k := by omega
    exact h1
theorem listed_no {n : Nat} {l : List Int} {k : Nat} (hk : k < l.length) (h : ¬ ascAt n l k) : listedV n l = .tuple #[.int .i64 0, .bool false] := by
  rw [listedV, if_neg (fun h' => h (h' k hk))]
set_option maxHeartbeats 1600000 in
set_option maxRecDepth 100000 in
theorem listed_any (n : Nat) (o : List Nat) (A : Option Addr) (c : Nat) (l : List Int) (w : World) (ok : Okt n o) (hr : Kd.C (Kd.int .i64) w A l.length l) (hc : l.length ≤ c) (hl : l.length < 4611686018427387904) :
    Calls Tryd.prog 29 #[.agg (tnN n o), .slice A l.length c] w fun e w' => e = .returned (listedV n l) ∧ Below w.heap.size w w' := by
  have HR := Aside0.mk hr
  have HK := Aside0.mk ok
  have n12 := ok.n12
  have c0 : (w.alloc (.cells (tnN n o) 47)).cell? ⟨w.heap.size, 0, none⟩ = some (.int .i64 n) := (Blk.new w 47 (tnN n o)).cell 0
  have C0 := Aside0.mk c0
  clear hr ok c0
  go_enter Tryd.func29, Tryd.ntmps29
  go_wp2_with fail
  go_loopw [6, 11] (fun v6 v wr => ∃ k : Nat, k ≤ l.length ∧ v = .int .i64 (k : Int) ∧ v6 = .int .i64 (setOf (l.take k) : Nat) ∧ Aside0 (AscTo n l k) ∧ wr = w.alloc (.cells (tnN n o) 47)) (fun _ v _ => l.length - (intOf v).toNat)
  case atStart => exact ⟨0, Nat.zero_le _, rfl, rfl, ⟨fun j hj => absurd hj (by omega)⟩, rfl⟩
  case round =>
    obtain ⟨k, hk, rfl, rfl, HA, rfl⟩ := hrel
    have c0 := C0.out
    by_cases hkl : k < l.length
    · obtain ⟨ad, rfl, cx⟩ := Kd.at_int HR.out (k : Int) (by omega) (by omega)
      have hlt := World.block_lt_of_cell? w _ cx
      replace cx := (World.cell?_alloc_lt w (.cells (tnN n o) 47) _ hlt).trans cx
      simp only [Int.toNat_natCast] at cx
      have hprev : 0 < k → (w.alloc (.cells (tnN n o) 47)).cell? (ad.add (k - 1)) = some (.int .i64 (rd l ((k : Int) - 1))) := fun hk0 => by
        obtain ⟨ad', e', cy⟩ := Kd.at_int HR.out ((k : Int) - 1) (by omega) (by omega)
        cases e'
        have h2 := World.block_lt_of_cell? w _ cy
        have := (World.cell?_alloc_lt w (.cells (tnN n o) 47) _ h2).trans cy
        rwa [show ((k : Int) - 1).toNat = k - 1 by omega] at this
      obtain ⟨x, hx⟩ : ∃ x, rd l (k : Int) = x := ⟨_, rfl⟩
      rw [hx] at cx
      have HX := Aside0.mk hx
      clear hx
      by_cases a1 : x < 0
      · have HF := Aside0.mk (listed_no hkl (show ¬ ascAt n l k by intro h; have := h.1; rw [HX.out] at this; omega))
        clear hprev
        go_wp2_with fail
        go_ret2
        exact ⟨by rw [HF.out]; rfl, below_alloc (Below.refl _ _) _⟩
      · by_cases a2 : (n : Int) ≤ x
        · have HF := Aside0.mk (listed_no hkl (show ¬ ascAt n l k by intro h; have := h.2.1; rw [HX.out] at this; omega))
          clear hprev
          go_wp2_with fail
          go_ret2
          exact ⟨by rw [HF.out]; rfl, below_alloc (Below.refl _ _) _⟩
        · obtain ⟨x, rfl⟩ : ∃ y : Nat, x = y := ⟨x.toNat, by omega⟩
          have hs := setOf_snoc l k hkl
          have hb := setOf_lt n l k hk HA.out
          have hx62 : 2 ^ x < 2 ^ 62 := Nat.pow_lt_pow_right (by decide) (by omega)
          have hs2 : ((setOf (l.take (k + 1)) : Nat) : Int) = bits .or .i64 (setOf (l.take k) : Nat) (wrap64 (2 ^ x)) := by
            rw [wr_pow x (by omega), b_or _ _ (lt62_of n12 hb) hx62, hs, HX.out, Int.toNat_natCast]
          have HS := Aside0.mk hs2
          clear hs hb hs2 hx62
          by_cases a3 : k = 0
          · subst a3
            have cx0 : (w.alloc (.cells (tnN n o) 47)).cell? ad = some (.int .i64 (x : Nat)) := by simpa [Addr.add] using cx
            clear cx
            have HA1 := Aside0.mk (HA.out.succ ⟨by rw [HX.out]; omega, by rw [HX.out]; omega, fun h => absurd h (by omega)⟩)
            clear hprev
            generalize setOf (List.take 0 l) = s0 at *
            go_wp2_with fail
            go_roundw
            case rel => exact ⟨1, by omega, by go_num, by rw [HS.out], HA1, trivial⟩
            case measure => simp [intOf]; omega
          · have cp := hprev (by omega)
            clear hprev
            have k0 : (0 : Int) < k := by omega
            obtain ⟨y, hy⟩ : ∃ y, rd l ((k : Int) - 1) = y := ⟨_, rfl⟩
            rw [hy] at cp
            have HY := Aside0.mk hy
            clear hy
            have k1 : ((k : Int) - 1).toNat = k - 1 := by omega
            by_cases a4 : (x : Int) ≤ y
            · have HF := Aside0.mk (listed_no hkl (show ¬ ascAt n l k by intro h; have := h.2.2 (by omega); rw [HX.out, HY.out] at this; omega))
              go_wp2_with fail
              go_ret2
              exact ⟨by rw [HF.out]; rfl, below_alloc (Below.refl _ _) _⟩
            · have HA1 := Aside0.mk (HA.out.succ ⟨by rw [HX.out]; omega, by rw [HX.out]; omega, fun h => by rw [HX.out, HY.out]; omega⟩)
              generalize setOf (List.take k l) = s0 at *
              go_wp2_with fail
              go_roundw
              case rel => exact ⟨k + 1, by omega, by go_num, by rw [HS.out], HA1, trivial⟩
              case measure => simp [intOf]; omega
    · obtain rfl : k = l.length := by omega
      have HF := Aside0.mk (show listedV n l = .tuple #[.int .i64 (setOf l : Nat), .bool true] from if_pos HA.out)
      have htk : setOf (l.take l.length) = setOf l := by rw [List.take_length]
      rw [htk]
      clear htk
      go_wp2_with fail
      go_ret2
      exact ⟨by rw [HF.out]; rfl, below_alloc (Below.refl _ _) _⟩
def isB (n : Nat) (o : List Nat) (l : List Int) : Bool := decide (AscTo n l l.length) && kerB n o (setOf l) (2 ^ n - 1)
def IsPost (n : Int) (l : List S43) (s : List Int) (w : World) (e : Ending) (w' : World) : Prop :=
  e = .returned (.tuple #[.bool (if ofE n l = 0 then isB n.toNat (townO l) s else false), .int .i64 (ofE n l)]) ∧ Below w.heap.size w w'
set_option maxHeartbeats 3200000 in
set_option maxRecDepth 100000 in
theorem Is_any (n : Int) (A : Option Addr) (c : Nat) (l : List S43) (B : Option Addr) (d : Nat) (s : List Int) (w : World) (hr : Kd.C k43 w A l.length l) (hc : l.length ≤ c)
    (hr2 : Kd.C (Kd.int .i64) w B s.length s) (hd : s.length ≤ d) (hs : s.length < 4611686018427387904) :
    Calls Tryd.prog 12 #[.int .i64 n, .slice A l.length c, .slice B s.length d] w (IsPost n l s w) := by
  have HO := Aside0.mk (of_A n A c l w hr hc)
  have HZ := Aside0.mk (ofA_size n l)
  have H1 := Aside0.mk (ofA_one n l)
  have HR2 := Aside0.mk hr2
  clear hr hc hr2
  by_cases he : ofE n l = 0
  · have ok := okt_of he
    have hA : ofA n l = tnN n.toNat (townO l) := by rw [ofA, if_pos he]
    have hK : IsPost n l s w = fun e w' => e = .returned (.tuple #[.bool (isB n.toNat (townO l) s), .int .i64 0]) ∧ Below w.heap.size w w' := by funext e w'; simp [IsPost, he]
    rw [hK]
    rw [hA] at HO HZ H1
    rw [he] at HO
    clear he hA hK
    generalize townO l = o at *
    generalize n.toNat = m at *
    have HK := Aside0.mk ok
    have n12 := ok.n12
    have hpn := pow12_lt m n12
    clear ok
    by_cases ha : AscTo m s s.length
    · have hS := Nat.lt_of_lt_of_le (by have := setOf_lt m s s.length (Nat.le_refl _) ha; rwa [List.take_length] at this) (Nat.pow_le_pow_right (by decide) n12 : 2 ^ m ≤ 2 ^ 12)
      have hB : isB m o s = kerB m o (setOf s) (2 ^ m - 1) := by simp [isB, ha]
      have hL : listedV m s = .tuple #[.int .i64 (setOf s : Nat), .bool true] := if_pos ha
      rw [hB]
      have HLt := Aside0.mk (fun w' h => hL ▸ listed_any m o B d s w' HK.out h hd hs)
      clear hB hL ha
      generalize setOf s = S at *
      obtain ⟨b, hb⟩ : ∃ b, kerB m o S (2 ^ m - 1) = b := ⟨_, rfl⟩
      rw [hb]
      have HQ := Aside0.mk hb
      have HEv := Aside0.mk (fun w => everybody_any m o w n12)
      clear hb
      go_enter Tryd.func12, Tryd.ntmps12
      go_wp2_with fail
      refine HO.out.mono ?_
      rintro e w1 ⟨rfl, hb⟩
      have HB := Aside0.mk hb
      clear hb HO
      have HT : Aside0 (TnN (w1.alloc (.cells (tnN m o) 47)) w1.heap.size m o) := ⟨Blk.new _ _ _⟩
      have HB1 := Aside0.mk (below_alloc HB.out (.cells (tnN m o) 47))
      go_wp2_with (first | (refine wpList_store_row rfl 47 _ _ rfl w1.heap.size (tnN m o) rfl rfl 47 (tnN 0 zero12) (heap_alloc_new w1 _) (by rw [info50, HZ.out]) (by rw [HZ.out]; rfl) H1.out ?_; rw [World.setRow_alloc_new]) | (refine wpList_load_row rfl 47 _ rfl w1.heap.size rfl 47 (tnN m o) (0, 0) _ HT.out Tryd.underlying47 rfl (by rw [info50, HZ.out]) ?_))
      refine (HLt.out _ (Kd.C_below HR2.out (HB1.out))).mono ?_
      rintro e w2 ⟨rfl, hb2⟩
      have HB2 := Aside0.mk (below_then HB1.out HB1.out.size hb2)
      have HT2 := Aside0.mk (Blk.later HT.out hb2)
      clear hb2
      go_wp2_with fail
      refine wp_region_held (S := fun wx => TnN wx w1.heap.size m o ∧ Below w.heap.size w wx) (by kernel_rfl) ?_
      have hT := Aside0.mk (Blk.drew HT2.out)
      have hb0 := Aside0.mk (below_drew HB2.out)
      refine tk (i := 0) 27 (v := .bool true) rfl rfl (by kernel_rfl) (by kernel_rfl) (by kernel_rfl) (fun _ _ _ h => h) (by kernel_rfl) (fun wx _ => by kernel_rfl) ⟨hT.out, hb0.out⟩ ?_
      simp only [pt_lit, List.set_cons_succ, List.set_cons_zero]
      refine tk (i := 1) 28 (v := .bool true) rfl rfl (by kernel_rfl) (by kernel_rfl) (by kernel_rfl) (fun _ _ _ h => h) (by kernel_rfl) (fun wx _ => by kernel_rfl) ⟨hT.out, hb0.out⟩ ?_
      simp only [pt_lit, List.set_cons_succ, List.set_cons_zero]
      refine tk (i := 2) 29 rfl rfl (by kernel_rfl) (by kernel_rfl) (by kernel_rfl) (fun _ _ _ h => h) (by kernel_rfl) (ld_tn _ rfl w1.heap.size m o rfl HK.out.len (fun _ h => h.1)) ⟨hT.out, hb0.out⟩ ?_
      simp only [pt_lit, List.set_cons_succ, List.set_cons_zero]
      refine tk (i := 3) 30 (v := .int .i64 (S : Nat)) rfl rfl (by kernel_rfl) (by kernel_rfl) (by kernel_rfl) (fun _ _ _ h => h) (by kernel_rfl) (fun wx _ => by kernel_rfl) ⟨hT.out, hb0.out⟩ ?_
      simp only [pt_lit, List.set_cons_succ, List.set_cons_zero]
      refine tk (i := 4) 31 rfl rfl (by kernel_rfl) (by kernel_rfl) (by kernel_rfl) (fun _ _ _ h => h) (by kernel_rfl) (ld_tn _ rfl w1.heap.size m o rfl HK.out.len (fun _ h => h.1)) ⟨hT.out, hb0.out⟩ ?_
      simp only [pt_lit, List.set_cons_succ, List.set_cons_zero]
      refine rc (i := 5) 32 (f := 26) (args := #[.agg (tnN m o)]) (by kernel_rfl) rfl rfl (by kernel_rfl) (by kernel_rfl) ?_
      refine (HEv.out _).mono ?_
      rintro e w3 ⟨rfl, hb3⟩
      have hb03 := below_then hb0.out hb0.out.size hb3
      refine ⟨_, rfl, ⟨Blk.later hT.out hb3, hb03⟩, ?_⟩
      simp only [pt_lit, List.set_cons_succ, List.set_cons_zero]
      refine rc (i := 6) 33 (f := 27) (args := #[.agg (tnN m o), .int .i64 (S : Nat), .int .i64 (2 ^ m - 1 : Nat)]) (by kernel_rfl) rfl rfl (by kernel_rfl) (by kernel_rfl) ?_
      refine (kernel_b HQ.out _ HK.out (by omega) (by omega)).mono ?_
      rintro e w4 ⟨rfl, hb4⟩
      have HB4 := Aside0.mk (below_then hb03 hb03.size hb4)
      have HT4 := Aside0.mk (Blk.later (Blk.later hT.out hb3) hb4)
      refine ⟨_, rfl, ⟨HT4.out, HB4.out⟩, ?_⟩
      clear hb4 hb03 hb3 hT hb0
      simp only [pt_lit, List.set_cons_succ, List.set_cons_zero]
      refine tk (i := 7) 34 (v := .bool b) rfl rfl (by kernel_rfl) (by kernel_rfl) (by kernel_rfl) (fun _ _ _ h => h) (by kernel_rfl) (fun wx _ => by kernel_rfl) ⟨HT4.out, HB4.out⟩ ?_
      simp only [pt_lit, List.set_cons_succ, List.set_cons_zero]
      refine rv (i := 8) 6 (v := .bool b) (w' := w4) (by kernel_rfl) rfl rfl (by kernel_rfl) (by kernel_rfl) ⟨HT4.out, HB4.out⟩ ?_
      simp only [pt_lit, List.set_cons_succ, List.set_cons_zero]
      refine rv (i := 9) 7 (v := .int .i64 0) (w' := w4) (by kernel_rfl) rfl rfl (by kernel_rfl) (by kernel_rfl) ⟨HT4.out, HB4.out⟩ ?_
      simp only [pt_lit, List.set_cons_succ, List.set_cons_zero]
      refine wpAnyH_done (by kernel_rfl) ?_ _
      go_wp2_with fail
      go_ret2
      exact ⟨rfl, HB4.out⟩
    · have hB : isB m o s = false := by simp [isB, ha]
      have hL : listedV m s = .tuple #[.int .i64 0, .bool false] := if_neg ha
      rw [hB]
      have HLt := Aside0.mk (fun w' h => hL ▸ listed_any m o B d s w' HK.out h hd hs)
      clear hB hL ha
      go_enter Tryd.func12, Tryd.ntmps12
      go_wp2_with fail
      refine HO.out.mono ?_
      rintro e w1 ⟨rfl, hb⟩
      have HB := Aside0.mk hb
      clear hb HO
      have HT : Aside0 (TnN (w1.alloc (.cells (tnN m o) 47)) w1.heap.size m o) := ⟨Blk.new _ _ _⟩
      have HB1 := Aside0.mk (below_alloc HB.out (.cells (tnN m o) 47))
      go_wp2_with (first | (refine wpList_store_row rfl 47 _ _ rfl w1.heap.size (tnN m o) rfl rfl 47 (tnN 0 zero12) (heap_alloc_new w1 _) (by rw [info50, HZ.out]) (by rw [HZ.out]; rfl) H1.out ?_; rw [World.setRow_alloc_new]) | (refine wpList_load_row rfl 47 _ rfl w1.heap.size rfl 47 (tnN m o) (0, 0) _ HT.out Tryd.underlying47 rfl (by rw [info50, HZ.out]) ?_))
      refine (HLt.out _ (Kd.C_below HR2.out (HB1.out))).mono ?_
      rintro e w2 ⟨rfl, hb2⟩
      have HB2 := Aside0.mk (below_then HB1.out HB1.out.size hb2)
      clear hb2
      go_wp2_with fail
      go_quiet (fail)
      go_wp2_with fail
      go_ret2
      exact ⟨rfl, pw_below_drewN HB2.out _⟩
  · have hK : IsPost n l s w = fun e w' => e = .returned (.tuple #[.bool false, .int .i64 (ofE n l)]) ∧ Below w.heap.size w w' := by funext e w'; simp [IsPost, he]
    rw [hK]
    have hb : (ofE n l != 0) = true := bne_iff_ne.2 he
    have hb' : (ofE n l == 0) = false := beq_eq_false_iff_ne.2 he
    clear hK he
    generalize ofE n l = er at *
    go_enter Tryd.func12, Tryd.ntmps12
    go_wp2_with fail
    refine HO.out.mono ?_
    rintro e w1 ⟨rfl, hb⟩
    have HB := Aside0.mk hb
    clear hb HO
    go_wp2_with (refine wpList_store_row rfl 47 _ _ rfl w1.heap.size (ofA n l) rfl rfl 47 (tnN 0 zero12) (heap_alloc_new w1 _) (by rw [info50, HZ.out]) (by rw [HZ.out]; rfl) H1.out ?_)
    go_ret2
    exact ⟨rfl, by rw [World.setRow_alloc_new]; exact below_alloc HB.out _⟩
end Go.Proofs.YtmobefgnkiboaaaDoor.Sh
namespace Go.Proofs.YtmobefgnkiboaaaDoor.Sh
open Go.RowKit Go.Proofs.YtmobefgnkiboaaaDoorW.PrintWords Go.Proofs.YtmobefgnkiboaaaDoorW.PrintLast Go.Proofs.YtmobefgnkiboaaaDoorW.PrintMore
set_option linter.unusedVariables false
def NotIn (l : List Int) (x : Int) (k : Nat) : Prop := ∀ j, j < k → rd l j ≠ x
def hasI (l : List Int) (x : Int) : Bool := l.contains x
theorem hasI_no {l : List Int} {x : Int} (h : NotIn l x l.length) : hasI l x = false := by
  unfold hasI
  rw [← Bool.not_eq_true]
  intro hc
  obtain ⟨i, hi, he⟩ := List.getElem_of_mem (List.contains_iff_mem.1 hc)
  exact h i hi (by simp [rd, hi, he])
theorem hasI_yes {l : List Int} {x : Int} {k : Nat} (hk : k < l.length) (h : rd l k = x) : hasI l x = true := by
  unfold hasI
  rw [List.contains_iff_mem]
  rw [← h]
  simp [rd, hk]
def IdxPost (l : List Int) (x : Int) (w : World) (e : Ending) (w' : World) : Prop :=
  ∃ r : Int, e = .returned (.int .i64 r) ∧ (decide (r ≥ 0) = hasI l x) ∧ w = w'
set_option maxHeartbeats 1600000 in
theorem index_any (A : Option Addr) (c : Nat) (l : List Int) (x : Int) (w : World) (hr : Kd.C (Kd.int .i64) w A l.length l) (hc : l.length ≤ c) (hl : l.length < 4611686018427387904) :
    Calls Tryd.prog 48 #[.slice A l.length c, .int .i64 x] w (IdxPost l x w) := by
  have HR := Aside0.mk hr
  clear hr
  go_enter Tryd.func48, Tryd.ntmps48
  go_wp2_with fail
  go_loop [8] (fun v => ∃ k : Nat, k ≤ l.length ∧ v = .int .i64 (k : Int) ∧ Aside0 (NotIn l x k)) (fun v => l.length - (intOf v).toNat)
  case atStart => exact ⟨0, Nat.zero_le _, rfl, ⟨fun j hj => absurd hj (by omega)⟩⟩
  case round =>
    obtain ⟨k, hk, rfl, HN⟩ := hrel
    by_cases hkl : k < l.length
    · obtain ⟨ad, rfl, cx⟩ := Kd.at_int HR.out (k : Int) (by omega) (by omega)
      simp only [Int.toNat_natCast] at cx
      obtain ⟨y, hy⟩ : ∃ y, rd l (k : Int) = y := ⟨_, rfl⟩
      rw [hy] at cx
      by_cases he : x = y
      · have HF := Aside0.mk (hasI_yes hkl (hy.trans he.symm))
        have hb : (x == y) = true := beq_iff_eq.2 he
        clear he hy
        go_wp2_with fail
        go_ret
        exact ⟨k, rfl, by rw [HF.out]; simp, rfl⟩
      · have HN1 : Aside0 (NotIn l x (k + 1)) := ⟨fun j hj => by
          rcases Nat.lt_or_ge j k with hlt | hge
          · exact HN.out j hlt
          · obtain rfl : j = k := by omega
            rw [hy]; exact fun e => he e.symm⟩
        have hb : (x == y) = false := beq_eq_false_iff_ne.2 he
        clear he hy
        go_wp2_with fail
        go_round
        case rel => exact ⟨k + 1, by omega, by go_num, HN1⟩
        case measure => simp [intOf]; omega
    · obtain rfl : k = l.length := by omega
      have HF := Aside0.mk (hasI_no HN.out)
      go_wp2_with fail
      go_ret
      exact ⟨-1, rfl, by rw [HF.out]; rfl, rfl⟩
theorem contains_any (A : Option Addr) (c : Nat) (l : List Int) (x : Int) (w : World) (hr : Kd.C (Kd.int .i64) w A l.length l) (hc : l.length ≤ c) (hl : l.length < 4611686018427387904) :
    Calls Tryd.prog 33 #[.slice A l.length c, .int .i64 x] w fun e w' => e = .returned (.bool (hasI l x)) ∧ w = w' := by
  have HI := Aside0.mk (index_any A c l x w hr hc hl)
  clear hr
  go_enter Tryd.func33, Tryd.ntmps33
  go_wp2_with fail
  refine HI.out.mono ?_
  rintro e w' ⟨r, rfl, hr, rfl⟩
  have HR := Aside0.mk hr
  clear hr
  go_wp2_with fail
  go_ret
  exact ⟨by rw [← HR.out]; rfl, rfl⟩
end Go.Proofs.YtmobefgnkiboaaaDoor.Sh
namespace Go.Proofs.YtmobefgnkiboaaaDoor.Sh
open Go.RowKit Go.Proofs.YtmobefgnkiboaaaDoorW.PrintWords Go.Proofs.YtmobefgnkiboaaaDoorW.PrintLast Go.Proofs.YtmobefgnkiboaaaDoorW.PrintMore
set_option linter.unusedVariables false
def oddF (o : List Nat) : Nat → List Nat → Option (List Nat)
  | 0, way => if (o.getD (way.getLastD 0) 0).testBit (way.headD 0) then some way else none
  | d + 1, way => (memL (o.getD (way.getLastD 0) 0)).findSome? fun j => if way.contains j then none else oddF o d (way ++ [j])
def FoundP (w : World) (r : Option (List Nat)) (e : Ending) (w' : World) : Prop :=
  match r with
  | some l => ∃ A c, e = .returned (.slice (some A) (ints l).length c) ∧ (ints l).length ≤ c ∧ Kd.C (Kd.int .i64) w' (some A) (ints l).length (ints l) ∧ Below w.heap.size w w'
  | none => e = .returned (.slice none 0 0) ∧ Below w.heap.size w w'
theorem memF_lt (p : Nat) : ∀ d i x, x ∈ memF p d i → x < d + i ∧ p.testBit x = true
  | 0, _, _, h => by simp [memF] at h
  | d + 1, i, x, h => by
    rw [memF] at h
    split at h
    · rename_i hb
      rcases List.mem_cons.1 h with rfl | h
      · exact ⟨by omega, hb⟩
      · obtain ⟨h1, h2⟩ := memF_lt p d (i + 1) x h
        exact ⟨by omega, h2⟩
    · obtain ⟨h1, h2⟩ := memF_lt p d (i + 1) x h
      exact ⟨by omega, h2⟩
theorem memL_lt {p x : Nat} (h : x ∈ memL p) : x < 12 := by
  have := (memF_lt p _ _ x h).1; omega
theorem memF_len (p : Nat) : ∀ d i, (memF p d i).length ≤ d
  | 0, _ => by simp [memF]
  | d + 1, i => by
    rw [memF]
    split
    · simp only [List.length_cons]; have := memF_len p d (i + 1); omega
    · have := memF_len p d (i + 1); omega
theorem memL_len (p : Nat) : (memL p).length ≤ 12 := memF_len p 12 0
theorem hasI_ints (l : List Nat) (j : Nat) : hasI (ints l) (j : Int) = l.contains j := by
  unfold hasI ints
  rw [Bool.eq_iff_iff, List.contains_iff_mem, List.contains_iff_mem, List.mem_map]
  constructor
  · rintro ⟨x, hx, he⟩
    have : x = j := by exact_mod_cast he
    rwa [← this]
  · exact fun h => ⟨j, h, rfl⟩
theorem ints_snoc (l : List Nat) (j : Nat) : ints (l ++ [j]) = ints l ++ [(j : Int)] := by simp [ints]
def noneTo (l : List Nat) (g : Nat → Option (List Nat)) (k : Nat) : Prop := (l.take k).findSome? g = none
theorem noneTo_zero (l : List Nat) (g : Nat → Option (List Nat)) : noneTo l g 0 := by simp [noneTo]
theorem noneTo_succ {l : List Nat} {g : Nat → Option (List Nat)} {k : Nat} (h : noneTo l g k) (hk : k < l.length) (h1 : g l[k] = none) : noneTo l g (k + 1) := by
  unfold noneTo at *
  rw [List.take_succ_eq_append_getElem hk, List.findSome?_append, h]
  simp [h1]
theorem noneTo_some {l : List Nat} {g : Nat → Option (List Nat)} {k : Nat} {r : List Nat} (h : noneTo l g k) (hk : k < l.length) (h1 : g l[k] = some r) : l.findSome? g = some r := by
  unfold noneTo at h
  have e : l = l.take k ++ l[k] :: l.drop (k + 1) := by simp
  have e2 : (l[k] :: l.drop (k + 1)).findSome? g = some r := by rw [List.findSome?_cons, h1]
  rw [e, List.findSome?_append, h, e2]
  rfl
theorem noneTo_all {l : List Nat} {g : Nat → Option (List Nat)} (h : noneTo l g l.length) : l.findSome? g = none := by
  unfold noneTo at h
  rwa [List.take_length] at h
theorem ex_load1 {a : Act} {o : Oper} {t : TypeId} {x : Operand} (ho : o.op = .load t x) (w : World) (ad : Addr) (v : Value) (hx : a.eval x = .pointer (some ad)) (hc : w.cell? ad = some v) (ht : ∀ w, (isAgg t).run Tryd.prog w = .ok false w) :
    (execOp a.eval o).run Tryd.prog w = .ok (.value v) w := by
  have hl : (Instr.loadAt t (.pointer (some ad))).run Tryd.prog w = .ok v w := by simp [Instr.loadAt, Instr.sureAddr, loadVar, ht, Sem.run_bind, Result.andThen, go_sem, hc]
  unfold execOp
  simp [ho, hx, hl, Result.andThen]
structure OddB (w : World) (gt gl go n long : Nat) (o : List Nat) : Prop where
  bt : TnN w gt n o
  bl : Blk w gl 3 #[.int .i64 (long : Nat)]
  bo : Blk w go 67 #[.func (.func 32) #[] #[.pointer (some ⟨gt, 0, none⟩), .pointer (some ⟨gl, 0, none⟩), .pointer (some ⟨go, 0, none⟩)]]
theorem OddB.later {w w' : World} {gt gl go n long : Nat} {o : List Nat} (h : OddB w gt gl go n long o) (hb : Below w.heap.size w w') : OddB w' gt gl go n long o :=
  ⟨Blk.later h.bt hb, h.bl.later hb, h.bo.later hb⟩
set_option maxHeartbeats 3200000 in
set_option maxRecDepth 100000 in
theorem odd1_any (gt gl go n long : Nat) (o : List Nat) (ok : Okt n o) (hlong : long ≤ 12) (d : Nat) :
    ∀ (way : List Nat) (A : Option Addr) (c : Nat) (w : World), way.length + d = long → 1 ≤ way.length → (∀ x ∈ way, x < 12) → OddB w gt gl go n long o →
      Kd.C (Kd.int .i64) w A (ints way).length (ints way) → (ints way).length ≤ c →
      Calls Tryd.prog 32 #[.slice A (ints way).length c, .pointer (some ⟨gt, 0, none⟩), .pointer (some ⟨gl, 0, none⟩), .pointer (some ⟨go, 0, none⟩)] w (FoundP w (oddF o d way)) := by
  induction d with
  | zero =>
    intro way A c w hl h1 hx hO hr hc
    have hlen : (ints way).length = way.length := ints_length way
    obtain ⟨ad, rfl⟩ := C_some hr (by omega)
    obtain ⟨_, e0, cl⟩ := Kd.at_int hr ((way.length : Int) - 1) (by omega) (by omega)
    cases e0
    obtain ⟨_, e0, cf⟩ := Kd.at_int hr 0 (by omega) (by omega)
    cases e0
    have hlast : rd (ints way) ((way.length : Int) - 1) = ((way.getLastD 0 : Nat) : Int) := by
      have : ((way.length : Int) - 1) = ((way.length - 1 : Nat) : Int) := by omega
      rw [this, rd_ints]
      congr 1
      rw [List.getD_eq_getElem?_getD, List.getLastD_eq_getLast?, List.getLast?_eq_getElem?]
    have hfirst : rd (ints way) 0 = ((way.headD 0 : Nat) : Int) := by
      have := rd_ints way 0
      rw [show ((0 : Nat) : Int) = 0 from rfl] at this
      rw [this]
      cases way <;> rfl
    rw [hlast, show ((way.length : Int) - 1).toNat = way.length - 1 by omega] at cl
    rw [hfirst] at cf
    have cf' : w.cell? ad = some (.int .i64 (way.headD 0 : Nat)) := by simpa [Addr.add] using cf
    have hla : way.getLastD 0 < 12 := by
      rw [List.getLastD_eq_getLast?]
      cases hg : way.getLast? with
      | none => simp
      | some x => exact hx x (List.mem_of_getLast? hg)
    have hfa : way.headD 0 < 12 := by
      cases way with
      | nil => simp
      | cons a l => exact hx a List.mem_cons_self
    have co := TnN.cellS hO.bt (way.getLastD 0) (by rw [ok.len]; omega)
    have hnx : o.getD (way.getLastD 0) 0 < 4096 := Nat.lt_of_lt_of_le (ok.lt _) (Nat.pow_le_pow_right (by decide) ok.n12 : 2 ^ n ≤ 2 ^ 12)
    have hF : oddF o 0 way = if (o.getD (way.getLastD 0) 0).testBit (way.headD 0) then some way else none := rfl
    rw [hF]
    clear hF cf hlast hfirst
    generalize way.getLastD 0 = la at *
    generalize way.headD 0 = fa at *
    generalize o.getD la 0 = nx at *
    have cg : w.cell? ⟨gl, 0, none⟩ = some (.int .i64 (long : Nat)) := hO.bl.cell 0
    rw [Nat.add_comm] at co
    have la0 : (0 : Int) ≤ la := by omega
    have la1 : (la : Int) < 12 := by omega
    have fa0 : (0 : Int) ≤ fa := by omega
    have wl0 : (0 : Int) ≤ (way.length : Int) - 1 := by omega
    have wl1 : ((way.length : Int) - 1).toNat = way.length - 1 := by omega
    have neq : ((way.length : Int) == (long : Int)) = true := beq_iff_eq.2 (by omega)
    have hb1 := b_bit1 nx fa (by omega)
    rw [hlen] at hr hc ⊢
    have HR := Aside0.mk hr
    clear hr hO hx
    cases hb : nx.testBit fa
    · rw [hb] at hb1
      rw [if_neg (by simp)]
      clear hb
      go_enter Tryd.func32, Tryd.ntmps32
      go_wp2_with fail
      go_ret
      exact ⟨rfl, Below.refl _ _⟩
    · rw [hb] at hb1
      rw [if_pos rfl]
      clear hb
      have HL := Aside0.mk hlen
      go_enter Tryd.func32, Tryd.ntmps32
      go_wp2_with fail
      go_ret
      exact ⟨ad, c, by rw [HL.out]; rfl, by rw [HL.out]; exact hc, by rw [HL.out]; exact HR.out, Below.refl _ _⟩
  | succ d ih =>
    intro way A c w hl h1 hx hO hr hc
    have IH := Aside0.mk ih
    clear ih
    have hlen : (ints way).length = way.length := ints_length way
    obtain ⟨ad, rfl⟩ := C_some hr (by omega)
    obtain ⟨_, e0, cl⟩ := Kd.at_int hr ((way.length : Int) - 1) (by omega) (by omega)
    cases e0
    have hlast : rd (ints way) ((way.length : Int) - 1) = ((way.getLastD 0 : Nat) : Int) := by
      have : ((way.length : Int) - 1) = ((way.length - 1 : Nat) : Int) := by omega
      rw [this, rd_ints]
      congr 1
      rw [List.getD_eq_getElem?_getD, List.getLastD_eq_getLast?, List.getLast?_eq_getElem?]
    rw [hlast, show ((way.length : Int) - 1).toNat = way.length - 1 by omega] at cl
    have hla : way.getLastD 0 < 12 := by
      rw [List.getLastD_eq_getLast?]
      cases hg : way.getLast? with
      | none => simp
      | some x => exact hx x (List.mem_of_getLast? hg)
    have co := TnN.cellS hO.bt (way.getLastD 0) (by rw [ok.len]; omega)
    have hnx : o.getD (way.getLastD 0) 0 < 4096 := Nat.lt_of_lt_of_le (ok.lt _) (Nat.pow_le_pow_right (by decide) ok.n12 : 2 ^ n ≤ 2 ^ 12)
    have hF : oddF o (d + 1) way = (memL (o.getD (way.getLastD 0) 0)).findSome? fun j => if way.contains j then none else oddF o d (way ++ [j]) := rfl
    rw [hF]
    clear hF
    generalize way.getLastD 0 = la at *
    generalize o.getD la 0 = nx at *
    have cg : w.cell? ⟨gl, 0, none⟩ = some (.int .i64 (long : Nat)) := hO.bl.cell 0
    rw [Nat.add_comm] at co
    have la0 : (0 : Int) ≤ la := by omega
    have la1 : (la : Int) < 12 := by omega
    have wl0 : (0 : Int) ≤ (way.length : Int) - 1 := by omega
    have wl1 : ((way.length : Int) - 1).toNat = way.length - 1 := by omega
    have neq : ((way.length : Int) == (long : Int)) = false := beq_eq_false_iff_ne.2 (by omega)
    rw [hlen] at hr hc ⊢
    have HR := Aside0.mk hr
    have HOO := Aside0.mk hO
    have HX := Aside0.mk hx
    have HM := Aside0.mk (fun w => members_any nx w hnx)
    clear hr hO hx hlast
    have hml := memL_len nx
    have HML := Aside0.mk (fun x (hx : x ∈ memL nx) => memL_lt hx)
    rw [show memL nx = mem12 nx 0 from rfl] at hml HML ⊢
    have qn : ∀ (w : World) (a : Option Addr) (n c n' c' : Nat), (binOp .neq 23 (.slice a n c) (.slice none n' c')).run Tryd.prog w = .ok (.bool (!a.isNone)) w := fun w a n c n' c' => run_neq_slice_nil_any w _ _ a n c n' c' Tryd.underlying23
    generalize mem12 nx 0 = M at *
    have hlm : (ints M).length = M.length := ints_length M
    obtain ⟨R, hR⟩ : ∃ R, (M.findSome? fun j => if way.contains j then none else oddF o d (way ++ [j])) = R := ⟨_, rfl⟩
    obtain ⟨gg, hgg⟩ : ∃ gg : Nat → Option (List Nat), gg = fun j => if way.contains j then none else oddF o d (way ++ [j]) := ⟨_, rfl⟩
    rw [← hgg] at hR
    have HGG := Aside0.mk (fun j => congrFun hgg j)
    have HRR := Aside0.mk hR
    rw [← hgg, hR]
    clear hgg hR
    go_enter Tryd.func32, Tryd.ntmps32
    go_wp2_with fail
    refine (HM.out w).mono ?_
    rintro e w1 ⟨v1, rfl, hr1, hb1⟩
    obtain ⟨A1, c1, rfl, hl1, hC1⟩ := Kd.R_reads hr1
    have HB1 := Aside0.mk hb1
    have HC1 := Aside0.mk hC1
    rw [hlm] at HC1 hl1 ⊢
    clear hr1 hb1 hC1 HM
    go_wp2_with fail
    go_loopw [34] (fun v wr => ∃ k : Nat, k ≤ M.length ∧ v = .int .i64 (k : Int) ∧ Aside0 (noneTo M gg k) ∧ Aside0 (Below w1.heap.size w1 wr)) (fun v _ => M.length - (intOf v).toNat)
    case atStart => exact ⟨0, Nat.zero_le _, rfl, ⟨noneTo_zero _ _⟩, ⟨Below.refl _ _⟩⟩
    case round =>
      obtain ⟨k, hk, rfl, HN, HB1r⟩ := hrel
      by_cases hkl : k < M.length
      · obtain ⟨ad1, rfl, cx⟩ := Kd.at_int HC1.out (k : Int) (by omega) (by omega)
        replace cx := (HB1r.out.cell (World.block_lt_of_cell? w1 _ cx)).trans cx
        rw [rd_ints, Int.toNat_natCast] at cx
        have hje : M.getD k 0 = M[k] := by simp [hkl]
        have hjn : M[k] < 12 := HML.out _ (List.getElem_mem hkl)
        rw [hje] at cx
        have HGk := Aside0.mk (HGG.out M[k])
        have HNN := Aside0.mk (fun h => noneTo_succ HN.out hkl h)
        have HNS := Aside0.mk (fun r h => noneTo_some (r := r) HN.out hkl h)
        generalize M[k] = jn at *
        have HBw := Aside0.mk (below_then HB1.out HB1.out.size HB1r.out)
        have HCt : Calls Tryd.prog 33 #[.slice (some ad) way.length c, .int .i64 (jn : Nat)] wr fun e w' => e = .returned (.bool (way.contains jn)) ∧ wr = w' := by
          have := contains_any (some ad) c (ints way) (jn : Nat) wr (by rw [hlen]; exact Kd.C_below HR.out HBw.out) (by rw [hlen]; exact hc) (by rw [hlen]; omega)
          rw [hasI_ints, hlen] at this
          exact this
        have HCC := Aside0.mk HCt
        clear HCt hje
        cases hct : way.contains jn
        · obtain ⟨ro, hro⟩ : ∃ ro, oddF o d (way ++ [jn]) = ro := ⟨_, rfl⟩
          have hgk := HGk.out
          rw [hct, hro, if_neg (by simp)] at hgk
          rw [hct] at HCC
          cases ro with
          | none =>
            have HN1 := Aside0.mk (HNN.out hgk)
            clear hgk HNN HNS HGk hct
            go_wp2_with fail
            refine HCC.out.mono ?_
            rintro e w2 ⟨rfl, rfl⟩
            go_wp2_with fail
            have HO2 := Aside0.mk (HOO.out.later (below_then HBw.out HBw.out.size (below_drew (Below.refl _ _))))
            have HB2 := Aside0.mk (below_drew HBw.out)
            have hb23 : Below wr.drew.heap.size wr.drew (wr.drew.alloc (.cells #[.int .i64 (jn : Nat)] 3)) := below_alloc (Below.refl _ _) _
            have HO3 := Aside0.mk (HO2.out.later hb23)
            have HB3 := Aside0.mk (below_then HB2.out HB2.out.size hb23)
            have HR3 := Aside0.mk (Kd.C_below HR.out HB3.out)
            have HB14 := Aside0.mk (below_then (below_drew HB1r.out) (below_drew HB1r.out).size hb23)
            clear hb23
            refine wp_region_held (S := fun wx => OddB wx gt gl go n long o ∧ Below w.heap.size w wx) (by kernel_rfl) ?_
            refine tk (i := 0) 42 (v := .func (.func 32) #[] #[.pointer (some ⟨gt, 0, none⟩), .pointer (some ⟨gl, 0, none⟩), .pointer (some ⟨go, 0, none⟩)]) rfl rfl (by kernel_rfl) (by kernel_rfl) (by kernel_rfl) (fun _ _ _ h => h) (by kernel_rfl) (fun wx h => ex_load1 rfl wx ⟨go, 0, none⟩ _ rfl (h.1.bo.cell 0) (fun w => by kernel_rfl)) ⟨HO2.out, HB2.out⟩ ?_
            simp only [pt_lit, List.set_cons_succ, List.set_cons_zero]
            refine tk (i := 1) 43 (v := .slice (some ad) way.length c) rfl rfl (by kernel_rfl) (by kernel_rfl) (by kernel_rfl) (fun _ _ _ h => h) (by kernel_rfl) (fun wx _ => by kernel_rfl) ⟨HO2.out, HB2.out⟩ ?_
            simp only [pt_lit, List.set_cons_succ, List.set_cons_zero]
            refine tk (i := 2) 44 (v := .slice (some ad) way.length c) rfl rfl (by kernel_rfl) (by kernel_rfl) (by kernel_rfl) (fun _ _ _ h => h) (by kernel_rfl) (fun wx _ => by kernel_rfl) ⟨HO2.out, HB2.out⟩ ?_
            simp only [pt_lit, List.set_cons_succ, List.set_cons_zero]
            refine tk (i := 3) 45 (v := .int .i64 (way.length : Nat)) rfl rfl (by kernel_rfl) (by kernel_rfl) (by kernel_rfl) (fun _ _ _ h => h) (by kernel_rfl) (fun wx _ => by kernel_rfl) ⟨HO2.out, HB2.out⟩ ?_
            simp only [pt_lit, List.set_cons_succ, List.set_cons_zero]
            refine tk (i := 4) 46 (v := .slice (some ad) way.length c) rfl rfl (by kernel_rfl) (by kernel_rfl) (by kernel_rfl) (fun _ _ _ h => h) (by kernel_rfl) (fun wx _ => by kernel_rfl) ⟨HO2.out, HB2.out⟩ ?_
            simp only [pt_lit, List.set_cons_succ, List.set_cons_zero]
            refine tk (i := 5) 47 (v := .int .i64 (way.length : Nat)) rfl rfl (by kernel_rfl) (by kernel_rfl) (by kernel_rfl) (fun _ _ _ h => h) (by kernel_rfl) (fun wx _ => by kernel_rfl) ⟨HO2.out, HB2.out⟩ ?_
            simp only [pt_lit, List.set_cons_succ, List.set_cons_zero]
            refine tk (i := 6) 48 (v := .slice (some ad) way.length way.length) rfl rfl (by kernel_rfl) (by kernel_rfl) (by kernel_rfl) (fun _ _ _ h => h) (by kernel_rfl) (fun wx _ => ex_slice3 rfl wx (some ad) way.length c rfl rfl rfl hc) ⟨HO2.out, HB2.out⟩ ?_
            simp only [pt_lit, List.set_cons_succ, List.set_cons_zero]
            refine tk (i := 7) 49 (v := .int .i64 (jn : Nat)) rfl rfl (by kernel_rfl) (by kernel_rfl) (by kernel_rfl) (fun _ _ _ h => h) (by kernel_rfl) (fun wx _ => by kernel_rfl) ⟨HO2.out, HB2.out⟩ ?_
            simp only [pt_lit, List.set_cons_succ, List.set_cons_zero]
            refine rv (i := 8) 50 (v := .slice (some ⟨wr.heap.size, 0, none⟩) 1 1) (w' := wr.drew.alloc (.cells #[.int .i64 (jn : Nat)] 3)) (by kernel_rfl) rfl rfl (by kernel_rfl) (by kernel_rfl) ⟨HO3.out, HB3.out⟩ ?_
            simp only [pt_lit, List.set_cons_succ, List.set_cons_zero]
            refine r_app1 (i := 9) 51 (by kernel_rfl) rfl rfl (by kernel_rfl) (s := .tmp 48) (x := .tmp 50) rfl rfl (some ad) (ints way) wr.heap.size (jn : Nat) (by rw [hlen]; rfl) rfl (by rw [hlen]; exact HR3.out) ((Blk.new wr.drew 3 #[.int .i64 (jn : Nat)]).cell 0) (by rw [hlen]; omega) (fun h => by cases h) ?_
            intro v4 w4 hr4 hb4
            rw [← ints_snoc] at hr4
            obtain ⟨A4, c4, rfl, hl4, hC4⟩ := Kd.R_reads hr4
            have HO4 := Aside0.mk (HO3.out.later hb4)
            have HB4 := Aside0.mk (below_then HB3.out HB3.out.size hb4)
            refine ⟨⟨HO4.out, HB4.out⟩, ?_⟩
            simp only [pt_lit, List.set_cons_succ, List.set_cons_zero]
            refine rc (i := 10) 52 (f := 32) (args := #[.slice A4 (ints (way ++ [jn])).length c4, .pointer (some ⟨gt, 0, none⟩), .pointer (some ⟨gl, 0, none⟩), .pointer (some ⟨go, 0, none⟩)]) (by kernel_rfl) rfl rfl (by kernel_rfl) (by kernel_rfl) ?_
            refine (IH.out (way ++ [jn]) A4 c4 _ (by rw [List.length_append]; simp; omega) (by rw [List.length_append]; simp) (fun x hx => by rcases List.mem_append.1 hx with h | h; exact HX.out x h; rw [List.mem_singleton.1 h]; exact hjn) HO4.out hC4 hl4).mono ?_
            rw [hro]
            clear hr4 hC4 hl4
            rintro e w5 ⟨rfl, hb5⟩
            have HO5 := Aside0.mk (HO4.out.later hb5)
            have HB5 := Aside0.mk (below_then HB4.out HB4.out.size hb5)
            have HB15 := Aside0.mk (below_then HB14.out HB14.out.size (below_then hb4 hb4.size hb5))
            refine ⟨_, rfl, ⟨HO5.out, HB5.out⟩, ?_⟩
            clear hb5 hb4
            simp only [pt_lit, List.set_cons_succ, List.set_cons_zero]
            refine rv (i := 11) 9 (v := .slice none 0 0) (w' := w5) (by kernel_rfl) rfl rfl (by kernel_rfl) (by kernel_rfl) ⟨HO5.out, HB5.out⟩ ?_
            simp only [pt_lit, List.set_cons_succ, List.set_cons_zero]
            refine wpAnyH_done (by kernel_rfl) ?_ _
            go_wp2_with fail
            go_roundw
            case rel => exact ⟨k + 1, by omega, by go_num, HN1, HB15⟩
            case measure => simp [intOf]; omega
          | some res =>
            have HF := Aside0.mk (HRR.out.symm.trans (HNS.out res hgk))
            clear hgk HNN HNS HGk hct
            go_wp2_with fail
            refine HCC.out.mono ?_
            rintro e w2 ⟨rfl, rfl⟩
            go_wp2_with fail
            have HO2 := Aside0.mk (HOO.out.later (below_then HBw.out HBw.out.size (below_drew (Below.refl _ _))))
            have HB2 := Aside0.mk (below_drew HBw.out)
            have hb23 : Below wr.drew.heap.size wr.drew (wr.drew.alloc (.cells #[.int .i64 (jn : Nat)] 3)) := below_alloc (Below.refl _ _) _
            have HO3 := Aside0.mk (HO2.out.later hb23)
            have HB3 := Aside0.mk (below_then HB2.out HB2.out.size hb23)
            have HR3 := Aside0.mk (Kd.C_below HR.out HB3.out)
            have HB14 := Aside0.mk (below_then (below_drew HB1r.out) (below_drew HB1r.out).size hb23)
            clear hb23
            refine wp_region_held (S := fun wx => OddB wx gt gl go n long o ∧ Below w.heap.size w wx) (by kernel_rfl) ?_
            refine tk (i := 0) 42 (v := .func (.func 32) #[] #[.pointer (some ⟨gt, 0, none⟩), .pointer (some ⟨gl, 0, none⟩), .pointer (some ⟨go, 0, none⟩)]) rfl rfl (by kernel_rfl) (by kernel_rfl) (by kernel_rfl) (fun _ _ _ h => h) (by kernel_rfl) (fun wx h => ex_load1 rfl wx ⟨go, 0, none⟩ _ rfl (h.1.bo.cell 0) (fun w => by kernel_rfl)) ⟨HO2.out, HB2.out⟩ ?_
            simp only [pt_lit, List.set_cons_succ, List.set_cons_zero]
            refine tk (i := 1) 43 (v := .slice (some ad) way.length c) rfl rfl (by kernel_rfl) (by kernel_rfl) (by kernel_rfl) (fun _ _ _ h => h) (by kernel_rfl) (fun wx _ => by kernel_rfl) ⟨HO2.out, HB2.out⟩ ?_
            simp only [pt_lit, List.set_cons_succ, List.set_cons_zero]
            refine tk (i := 2) 44 (v := .slice (some ad) way.length c) rfl rfl (by kernel_rfl) (by kernel_rfl) (by kernel_rfl) (fun _ _ _ h => h) (by kernel_rfl) (fun wx _ => by kernel_rfl) ⟨HO2.out, HB2.out⟩ ?_
            simp only [pt_lit, List.set_cons_succ, List.set_cons_zero]
            refine tk (i := 3) 45 (v := .int .i64 (way.length : Nat)) rfl rfl (by kernel_rfl) (by kernel_rfl) (by kernel_rfl) (fun _ _ _ h => h) (by kernel_rfl) (fun wx _ => by kernel_rfl) ⟨HO2.out, HB2.out⟩ ?_
            simp only [pt_lit, List.set_cons_succ, List.set_cons_zero]
            refine tk (i := 4) 46 (v := .slice (some ad) way.length c) rfl rfl (by kernel_rfl) (by kernel_rfl) (by kernel_rfl) (fun _ _ _ h => h) (by kernel_rfl) (fun wx _ => by kernel_rfl) ⟨HO2.out, HB2.out⟩ ?_
            simp only [pt_lit, List.set_cons_succ, List.set_cons_zero]
            refine tk (i := 5) 47 (v := .int .i64 (way.length : Nat)) rfl rfl (by kernel_rfl) (by kernel_rfl) (by kernel_rfl) (fun _ _ _ h => h) (by kernel_rfl) (fun wx _ => by kernel_rfl) ⟨HO2.out, HB2.out⟩ ?_
            simp only [pt_lit, List.set_cons_succ, List.set_cons_zero]
            refine tk (i := 6) 48 (v := .slice (some ad) way.length way.length) rfl rfl (by kernel_rfl) (by kernel_rfl) (by kernel_rfl) (fun _ _ _ h => h) (by kernel_rfl) (fun wx _ => ex_slice3 rfl wx (some ad) way.length c rfl rfl rfl hc) ⟨HO2.out, HB2.out⟩ ?_
            simp only [pt_lit, List.set_cons_succ, List.set_cons_zero]
            refine tk (i := 7) 49 (v := .int .i64 (jn : Nat)) rfl rfl (by kernel_rfl) (by kernel_rfl) (by kernel_rfl) (fun _ _ _ h => h) (by kernel_rfl) (fun wx _ => by kernel_rfl) ⟨HO2.out, HB2.out⟩ ?_
            simp only [pt_lit, List.set_cons_succ, List.set_cons_zero]
            refine rv (i := 8) 50 (v := .slice (some ⟨wr.heap.size, 0, none⟩) 1 1) (w' := wr.drew.alloc (.cells #[.int .i64 (jn : Nat)] 3)) (by kernel_rfl) rfl rfl (by kernel_rfl) (by kernel_rfl) ⟨HO3.out, HB3.out⟩ ?_
            simp only [pt_lit, List.set_cons_succ, List.set_cons_zero]
            refine r_app1 (i := 9) 51 (by kernel_rfl) rfl rfl (by kernel_rfl) (s := .tmp 48) (x := .tmp 50) rfl rfl (some ad) (ints way) wr.heap.size (jn : Nat) (by rw [hlen]; rfl) rfl (by rw [hlen]; exact HR3.out) ((Blk.new wr.drew 3 #[.int .i64 (jn : Nat)]).cell 0) (by rw [hlen]; omega) (fun h => by cases h) ?_
            intro v4 w4 hr4 hb4
            rw [← ints_snoc] at hr4
            obtain ⟨A4, c4, rfl, hl4, hC4⟩ := Kd.R_reads hr4
            have HO4 := Aside0.mk (HO3.out.later hb4)
            have HB4 := Aside0.mk (below_then HB3.out HB3.out.size hb4)
            refine ⟨⟨HO4.out, HB4.out⟩, ?_⟩
            simp only [pt_lit, List.set_cons_succ, List.set_cons_zero]
            refine rc (i := 10) 52 (f := 32) (args := #[.slice A4 (ints (way ++ [jn])).length c4, .pointer (some ⟨gt, 0, none⟩), .pointer (some ⟨gl, 0, none⟩), .pointer (some ⟨go, 0, none⟩)]) (by kernel_rfl) rfl rfl (by kernel_rfl) (by kernel_rfl) ?_
            refine (IH.out (way ++ [jn]) A4 c4 _ (by rw [List.length_append]; simp; omega) (by rw [List.length_append]; simp) (fun x hx => by rcases List.mem_append.1 hx with h | h; exact HX.out x h; rw [List.mem_singleton.1 h]; exact hjn) HO4.out hC4 hl4).mono ?_
            rw [hro]
            clear hr4 hC4 hl4
            rintro e w5 ⟨A5, c5, rfl, hl5, hC5, hb5⟩
            have HO5 := Aside0.mk (HO4.out.later hb5)
            have HB5 := Aside0.mk (below_then HB4.out HB4.out.size hb5)
            have HC5 := Aside0.mk hC5
            have HL5 := Aside0.mk hl5
            refine ⟨_, rfl, ⟨HO5.out, HB5.out⟩, ?_⟩
            clear hb5 hC5 hb4 hl5
            simp only [pt_lit, List.set_cons_succ, List.set_cons_zero]
            refine rv (i := 11) 9 (v := .slice (some A5) (ints res).length c5) (w' := w5) (by kernel_rfl) rfl rfl (by kernel_rfl) (by kernel_rfl) ⟨HO5.out, HB5.out⟩ ?_
            simp only [pt_lit, List.set_cons_succ, List.set_cons_zero]
            refine wpAnyH_done (by kernel_rfl) ?_ _
            go_wp2_with fail
            go_ret
            rw [HF.out]
            exact ⟨A5, c5, rfl, HL5.out, HC5.out, HB5.out⟩
        · have hgk := HGk.out
          rw [hct, if_pos rfl] at hgk
          have HN1 := Aside0.mk (HNN.out hgk)
          rw [hct] at HCC
          clear hgk HNN HNS HGk hct
          go_wp2_with fail
          refine HCC.out.mono ?_
          rintro e w2 ⟨rfl, rfl⟩
          go_wp2_with fail
          go_roundw
          case rel => exact ⟨k + 1, by omega, by go_num, HN1, HB1r⟩
          case measure => simp [intOf]; omega
      · obtain rfl : k = M.length := by omega
        have HF := Aside0.mk (HRR.out.symm.trans (noneTo_all HN.out))
        go_wp2_with fail
        go_ret
        rw [HF.out]
        exact ⟨rfl, below_then HB1.out HB1.out.size HB1r.out⟩
end Go.Proofs.YtmobefgnkiboaaaDoor.Sh
namespace Go.Proofs.YtmobefgnkiboaaaDoor.Sh
open Go.RowKit Go.Proofs.YtmobefgnkiboaaaDoorW.PrintWords Go.Proofs.YtmobefgnkiboaaaDoorW.PrintLast Go.Proofs.YtmobefgnkiboaaaDoorW.PrintMore
set_option linter.unusedVariables false
def oddI (o : List Nat) (n q : Nat) : Option (List Nat) := (List.range n).findSome? fun i => oddF o (2 * q) [i]
def oddS (n : Nat) (o : List Nat) : Option (List Nat) := (List.range ((n + 1) / 2)).findSome? fun q => oddI o n q
def FoundE (w : World) (r : Option (List Nat)) (e : Ending) (w' : World) : Prop :=
  match r with
  | some l => ∃ A c, e = .returned (.tuple #[.slice (some A) (ints l).length c, .int .i64 0]) ∧ (ints l).length ≤ c ∧ Kd.C (Kd.int .i64) w' (some A) (ints l).length (ints l) ∧ Below w.heap.size w w'
  | none => e = .returned (.tuple #[.slice none 0 0, .int .i64 10]) ∧ Below w.heap.size w w'
def OddPost (n : Int) (l : List S43) (w : World) (e : Ending) (w' : World) : Prop :=
  if ofE n l = 0 then FoundE w (oddS n.toNat (townO l)) e w'
  else e = .returned (.tuple #[.slice none 0 0, .int .i64 (ofE n l)]) ∧ Below w.heap.size w w'
theorem C_one (w : World) (i : Nat) : Kd.C (Kd.int .i64) (w.alloc (.cells #[.int .i64 (i : Nat)] 3)) (some ⟨w.heap.size, 0, none⟩) (ints [i]).length (ints [i]) := by
  have h1 : (w.alloc (.cells #[.int .i64 (i : Nat)] 3)).ownsRow w.heap.size 3 1 (.slice (some ⟨w.heap.size, 0, none⟩) 1 1) (ints [i]).length (encs (Value.int .i64) (ints [i])) :=
    ⟨rfl, .inr ⟨w.heap.size, 1, #[.int .i64 (i : Nat)], rfl, Nat.le_refl _, Blk.new w 3 _, by simp [ints], by decide, rfl, rfl⟩⟩
  have h2 : Kd.R (Kd.int .i64) 3 (w.alloc (.cells #[.int .i64 (i : Nat)] 3)) w.heap.size (fun _ => True) (.slice (some ⟨w.heap.size, 0, none⟩) 1 1) (ints [i]) := Kd.R_of_own h1 (fun _ _ => trivial)
  obtain ⟨A, c, e, _, hC⟩ := Kd.R_reads h2
  injection e with e1
  rw [← e1] at hC
  exact hC
set_option maxHeartbeats 3200000 in
set_option maxRecDepth 100000 in
theorem Odd_any (n : Int) (A : Option Addr) (c : Nat) (l : List S43) (w : World) (hr : Kd.C k43 w A l.length l) (hc : l.length ≤ c) :
    Calls Tryd.prog 16 #[.int .i64 n, .slice A l.length c] w (OddPost n l w) := by
  have hmf : ∀ (fn : Fn) (first cap : Array Value) (w : World), (Instr.makeFunc fn first cap).run Tryd.prog w = .ok (.func fn first cap) w := fun _ _ _ _ => rfl
  have hsf := fun (a : Addr) (c : Array Value) (w : World) => run_store Tryd.prog w a (.func (.func 32) #[] c) .plain rfl
  have qn : ∀ (w : World) (a : Option Addr) (n c n' c' : Nat), (binOp .neq 23 (.slice a n c) (.slice none n' c')).run Tryd.prog w = .ok (.bool (!a.isNone)) w := fun w a n c n' c' => run_neq_slice_nil_any w _ _ a n c n' c' Tryd.underlying23
  have HO := Aside0.mk (of_A n A c l w hr hc)
  have HZ := Aside0.mk (ofA_size n l)
  have H1 := Aside0.mk (ofA_one n l)
  clear hr hc
  by_cases he : ofE n l = 0
  · have ok := okt_of he
    have hA : ofA n l = tnN n.toNat (townO l) := by rw [ofA, if_pos he]
    have hK : OddPost n l w = FoundE w (oddS n.toNat (townO l)) := by funext e w'; simp [OddPost, he]
    have hnn := (ofE_ok he).1
    rw [hK]
    rw [hA] at HO HZ H1
    rw [he] at HO
    clear he hA hK
    generalize townO l = o at *
    obtain ⟨m, rfl⟩ : ∃ m : Nat, n = m := ⟨n.toNat, by omega⟩
    rw [Int.toNat_natCast] at *
    have HK := Aside0.mk ok
    have n12 := ok.n12
    clear ok hnn
    obtain ⟨R, hR⟩ : ∃ R, oddS m o = R := ⟨_, rfl⟩
    rw [hR]
    have HR := Aside0.mk hR
    clear hR
    go_enter Tryd.func16, Tryd.ntmps16
    go_wp2_with fail
    refine HO.out.mono ?_
    rintro e w1 ⟨rfl, hb⟩
    have HB := Aside0.mk hb
    clear hb HO
    have HT : Aside0 (TnN (w1.alloc (.cells (tnN m o) 47)) w1.heap.size m o) := ⟨Blk.new _ _ _⟩
    have HB1 := Aside0.mk (below_alloc HB.out (.cells (tnN m o) 47))
    go_wp2_with (refine wpList_store_row rfl 47 _ _ rfl w1.heap.size (tnN m o) rfl rfl 47 (tnN 0 zero12) (heap_alloc_new w1 _) (by rw [info50, HZ.out]) (by rw [HZ.out]; rfl) H1.out ?_; rw [World.setRow_alloc_new])
    go_loopg [8] 7 (fun kq v wr => ∃ (q gl : Nat), kq + q = 7 ∧ v = .pointer (some ⟨gl, 0, none⟩) ∧ Aside0 (Blk wr gl 3 #[.int .i64 (2 * q + 1 : Nat)]) ∧ Aside0 (TnN wr w1.heap.size m o) ∧ Aside0 (Below w.heap.size w wr) ∧ Aside0 (q ≤ (m + 1) / 2) ∧ Aside0 (noneTo (List.range ((m + 1) / 2)) (oddI o m) q))
    case atStart => exact ⟨0, w1.heap.size + 1, rfl, rfl, ⟨by simpa using Blk.new (w1.alloc (.cells (tnN m o) 47)) 3 #[.int .i64 1]⟩, ⟨Blk.alloc HT.out _⟩, ⟨below_alloc HB1.out _⟩, ⟨by omega⟩, ⟨noneTo_zero _ _⟩⟩
    case round =>
      obtain ⟨q, gl, hq, rfl, HG, HT2, HB2, HQM, HN⟩ := hrel
      have cl := HG.out.cell 0
      simp only [List.getElem?_toArray, List.getElem?_cons_zero] at cl
      by_cases hlm : 2 * q + 1 ≤ m
      · have hlm' : (2 * (q : Int) + 1) ≤ m := by omega
        have hqm : q < (m + 1) / 2 := by omega
        have HNN := Aside0.mk (fun h => noneTo_succ HN.out (by rw [List.length_range]; exact hqm) h)
        have HNS := Aside0.mk (fun r h => noneTo_some (r := r) HN.out (by rw [List.length_range]; exact hqm) h)
        simp only [List.getElem_range] at HNN HNS
        obtain ⟨k1, rfl⟩ : ∃ k1, gk = k1 + 1 := ⟨gk - 1, by omega⟩
        have ha1 : Below wr.heap.size wr (wr.alloc (.cells #[.func (.func 32) #[] #[.pointer (some ⟨w1.heap.size, 0, none⟩), .pointer (some ⟨gl, 0, none⟩), .pointer (some ⟨wr.heap.size, 0, none⟩)]] 67)) := below_alloc (Below.refl _ _) _
        have HOB : Aside0 (OddB (wr.alloc (.cells #[.func (.func 32) #[] #[.pointer (some ⟨w1.heap.size, 0, none⟩), .pointer (some ⟨gl, 0, none⟩), .pointer (some ⟨wr.heap.size, 0, none⟩)]] 67)) w1.heap.size gl wr.heap.size m (2 * q + 1) o) :=
          ⟨⟨Blk.alloc HT2.out _, HG.out.alloc _, Blk.new _ _ _⟩⟩
        have HB3 := Aside0.mk (below_then HB2.out HB2.out.size ha1)
        clear ha1
        go_wp2_with fail
        generalize wr.alloc (.cells #[.func (.func 32) #[] #[.pointer (some ⟨w1.heap.size, 0, none⟩), .pointer (some ⟨gl, 0, none⟩), .pointer (some ⟨wr.heap.size, 0, none⟩)]] 67) = W0 at *
        generalize wr.heap.size = gB at *
        go_loopw [28] (fun v wx => ∃ i : Nat, i ≤ m ∧ v = .int .i64 (i : Int) ∧ Aside0 (noneTo (List.range m) (fun i => oddF o (2 * q) [i]) i) ∧ Aside0 (Below W0.heap.size W0 wx)) (fun v _ => m - (intOf v).toNat)
        case atStart => exact ⟨0, Nat.zero_le _, rfl, ⟨noneTo_zero _ _⟩, ⟨Below.refl _ _⟩⟩
        case round =>
          obtain ⟨i, hi, rfl, HNi, HBx⟩ := hrel
          by_cases him : i < m
          · have HN1 := Aside0.mk (fun h => noneTo_succ HNi.out (by rw [List.length_range]; exact him) h)
            have HN2 := Aside0.mk (fun r h => noneTo_some (r := r) HNi.out (by rw [List.length_range]; exact him) h)
            simp only [List.getElem_range] at HN1 HN2
            have hOx := HOB.out.later HBx.out
            have co : wr.cell? ⟨gB, 0, none⟩ = some (.func (.func 32) #[] #[.pointer (some ⟨w1.heap.size, 0, none⟩), .pointer (some ⟨gl, 0, none⟩), .pointer (some ⟨gB, 0, none⟩)]) := hOx.bo.cell 0
            have hbx2 : Below wr.heap.size wr (wr.alloc (.cells #[.int .i64 (i : Nat)] 3)) := below_alloc (Below.refl _ _) _
            have hC : Kd.C (Kd.int .i64) (wr.alloc (.cells #[.int .i64 (i : Nat)] 3)) (some ⟨wr.heap.size, 0, none⟩) (ints [i]).length (ints [i]) := C_one wr i
            have HCall := Aside0.mk (odd1_any w1.heap.size gl gB m (2 * q + 1) o HK.out (by omega) (2 * q) [i] (some ⟨wr.heap.size, 0, none⟩) 1 _ (by simp; omega) (by simp) (fun x hx => by rw [List.mem_singleton.1 hx]; omega) (hOx.later hbx2) hC (by simp [ints]))
            have HBy := Aside0.mk (below_then HBx.out HBx.out.size hbx2)
            obtain ⟨ro, hro⟩ : ∃ ro, oddF o (2 * q) [i] = ro := ⟨_, rfl⟩
            rw [hro] at HCall HN1 HN2
            clear hbx2 hC hOx hro
            go_wp2_with fail
            refine HCall.out.mono ?_
            cases ro with
            | none =>
              rintro e w5 ⟨rfl, hb5⟩
              have HB5 := Aside0.mk (below_then HBy.out HBy.out.size hb5)
              have HN3 := Aside0.mk (HN1.out rfl)
              clear hb5
              go_wp2_with fail
              go_roundw
              case rel => exact ⟨i + 1, by omega, by go_num, HN3, HB5⟩
              case measure => simp [intOf]; omega
            | some res =>
              rintro e w5 ⟨A5, c5, rfl, hl5, hC5, hb5⟩
              have HB5 := Aside0.mk (below_then HBy.out HBy.out.size hb5)
              have HF := Aside0.mk (HR.out.symm.trans (HNS.out res (HN2.out res rfl)))
              have HC5 := Aside0.mk hC5
              have HL5 := Aside0.mk hl5
              clear hb5 hC5 hl5
              go_wp2_with fail
              go_ret2
              rw [HF.out]
              exact ⟨A5, c5, rfl, HL5.out, HC5.out, below_then HB3.out HB3.out.size HB5.out⟩
          · obtain rfl : i = m := by omega
            have hN0 : oddI o i q = none := by
              have := HNi.out
              have h2 := noneTo_all (l := List.range i) (g := fun i => oddF o (2 * q) [i]) (by rw [List.length_range]; exact this)
              exact h2
            have HNq := Aside0.mk (HNN.out hN0)
            have hOx := HOB.out.later HBx.out
            have cg : wr.cell? ⟨gl, 0, none⟩ = some (.int .i64 (2 * q + 1 : Nat)) := hOx.bl.cell 0
            have HT5 := Aside0.mk hOx.bt
            have HB6 := Aside0.mk (below_then HB3.out HB3.out.size HBx.out)
            clear hOx hN0
            go_wp2_with fail
            go_roundg k1
            case measure => omega
            case rel => exact ⟨q + 1, wr.heap.size, by omega, rfl, ⟨by have := Blk.new wr 3 #[.int .i64 (2 * (q + 1) + 1 : Nat)]; have e : ((2 * (q + 1) + 1 : Nat) : Int) = 2 * (q : Int) + 1 + 2 := (by omega); rw [e] at this; exact this⟩, ⟨Blk.alloc HT5.out _⟩, ⟨below_alloc HB6.out _⟩, ⟨by omega⟩, HNq⟩
      · have hlm' : ¬ ((2 * (q : Int) + 1) ≤ m) := by omega
        have HF := Aside0.mk (show R = none by
          have h1 := HN.out
          have h2 : q = (List.range ((m + 1) / 2)).length := by rw [List.length_range]; have := HQM.out; omega
          rw [h2] at h1
          exact HR.out.symm.trans (noneTo_all h1))
        go_wp2_with fail
        go_ret2
        rw [HF.out]
        exact ⟨rfl, HB2.out⟩
  · have hK : OddPost n l w = fun e w' => e = .returned (.tuple #[.slice none 0 0, .int .i64 (ofE n l)]) ∧ Below w.heap.size w w' := by funext e w'; simp [OddPost, he]
    rw [hK]
    have hb : (ofE n l != 0) = true := bne_iff_ne.2 he
    have hb' : (ofE n l == 0) = false := beq_eq_false_iff_ne.2 he
    clear hK he
    generalize ofE n l = er at *
    go_enter Tryd.func16, Tryd.ntmps16
    go_wp2_with fail
    refine HO.out.mono ?_
    rintro e w1 ⟨rfl, hb⟩
    have HB := Aside0.mk hb
    clear hb HO
    go_wp2_with (refine wpList_store_row rfl 47 _ _ rfl w1.heap.size (ofA n l) rfl rfl 47 (tnN 0 zero12) (heap_alloc_new w1 _) (by rw [info50, HZ.out]) (by rw [HZ.out]; rfl) H1.out ?_)
    go_ret2
    exact ⟨rfl, by rw [World.setRow_alloc_new]; exact below_alloc HB.out _⟩
end Go.Proofs.YtmobefgnkiboaaaDoor.Sh

namespace Go.Proofs.YtmobefgnkiboaaaDoor.Sh
open Go.RowKit Go.Proofs.YtmobefgnkiboaaaDoorW.PrintWords Go.Proofs.YtmobefgnkiboaaaDoorW.PrintLast Go.Proofs.YtmobefgnkiboaaaDoorW.PrintMore
set_option linter.unusedVariables false
attribute [local go_sem] tnA_zero
def numStep (ranks : List Nat) (a : Nat × Nat) (j : Nat) : Nat × Nat := if j < ranks.length then (a.1 ||| 2 ^ (ranks.getD j 0), a.2) else (a.1, a.2 + 1)
def numN (ranks M : List Nat) : Nat × Nat := M.foldl (numStep ranks) (0, 0)
theorem numN_snoc (ranks M : List Nat) (k : Nat) (h : k < M.length) : numN ranks (M.take (k + 1)) = numStep ranks (numN ranks (M.take k)) M[k] := by
  rw [List.take_succ_eq_append_getElem h]
  unfold numN
  rw [List.foldl_append]
  rfl
theorem numN_lt (ranks : List Nat) (hr : ∀ x ∈ ranks, x ≤ 12) : ∀ (M : List Nat) (a : Nat × Nat), a.1 < 8192 → (M.foldl (numStep ranks) a).1 < 8192
  | [], a, h => h
  | j :: M, a, h => by
    refine numN_lt ranks hr M _ ?_
    unfold numStep
    split
    · rename_i hj
      have : ranks.getD j 0 ≤ 12 := by
        rw [List.getD_eq_getElem?_getD, List.getElem?_eq_getElem hj]
        exact hr _ (List.getElem_mem hj)
      exact Nat.or_lt_two_pow (n := 13) h (Nat.pow_lt_pow_right (by decide) (by omega))
    · exact h
theorem numN_open (ranks : List Nat) : ∀ (M : List Nat) (a : Nat × Nat), (M.foldl (numStep ranks) a).2 ≤ a.2 + M.length
  | [], a => Nat.le_refl _
  | j :: M, a => by
    have := numN_open ranks M (numStep ranks a j)
    have h2 : (numStep ranks a j).2 ≤ a.2 + 1 := by unfold numStep; split <;> simp
    simp only [List.foldl_cons, List.length_cons]
    omega
set_option maxHeartbeats 1600000 in
set_option maxRecDepth 100000 in
theorem numbers_any (n : Nat) (o : List Nat) (i : Nat) (A : Option Addr) (c : Nat) (ranks : List Nat) (w : World) (ok : Okt n o) (hi : i < 12) (hr : Kd.C (Kd.int .i64) w A ranks.length (ints ranks)) (hc : ranks.length ≤ c) (hrl : ranks.length ≤ 12) (hx : ∀ x ∈ ranks, x ≤ 12) :
    Calls Tryd.prog 49 #[.agg (tnN n o), .int .i64 i, .slice A ranks.length c] w fun e w' => e = .returned (.tuple #[.int .i64 ((numN ranks (memL (o.getD i 0))).1 : Nat), .int .i64 ((numN ranks (memL (o.getD i 0))).2 : Nat)]) ∧ Below w.heap.size w w' := by
  have HR := Aside0.mk hr
  have hlen : (ints ranks).length = ranks.length := ints_length ranks
  have ht : TnN (w.alloc (.cells (tnN n o) 47)) w.heap.size n o := Blk.new _ _ _
  have co := ht.cellS i (by rw [ok.len]; omega)
  rw [Nat.add_comm] at co
  have hnx : o.getD i 0 < 4096 := Nat.lt_of_lt_of_le (ok.lt _) (Nat.pow_le_pow_right (by decide) ok.n12 : 2 ^ n ≤ 2 ^ 12)
  generalize o.getD i 0 = nx at *
  have hml := memL_len nx
  have HML := Aside0.mk (fun x (hx : x ∈ memL nx) => memL_lt hx)
  have HM := Aside0.mk (fun w => members_any nx w hnx)
  have HNL := Aside0.mk (fun k => numN_lt ranks hx ((memL nx).take k) (0, 0) (by decide))
  have HNO := Aside0.mk (fun k => numN_open ranks ((memL nx).take k) (0, 0))
  have HX := Aside0.mk hx
  rw [show memL nx = mem12 nx 0 from rfl] at *
  generalize mem12 nx 0 = M at *
  have hlm : (ints M).length = M.length := ints_length M
  have i0 : (0 : Int) ≤ i := by omega
  have i1 : (i : Int) < 12 := by omega
  clear ht ok hr hx
  unfold tnN at *
  go_enter Tryd.func49, Tryd.ntmps49
  go_wp2_with fail
  refine (HM.out _).mono ?_
  rintro e w1 ⟨v1, rfl, hr1, hb1⟩
  obtain ⟨A1, c1, rfl, hl1, hC1⟩ := Kd.R_reads hr1
  have HB1 := Aside0.mk (below_then (below_alloc (Below.refl _ w) (.cells (tnA n (ints o)) 47)) (below_alloc (Below.refl _ w) (.cells (tnA n (ints o)) 47)).size hb1)
  have HC1 := Aside0.mk hC1
  rw [hlm] at HC1 hl1 ⊢
  clear hr1 hb1 hC1 HM co
  go_wp2_with fail
  go_loop [8, 9, 18] (fun v8 v9 v => ∃ k : Nat, k ≤ M.length ∧ v = .int .i64 (k : Int) ∧ v8 = .int .i64 ((numN ranks (M.take k)).1 : Nat) ∧ v9 = .int .i64 ((numN ranks (M.take k)).2 : Nat)) (fun _ _ v => M.length - (intOf v).toNat)
  case atStart => exact ⟨0, Nat.zero_le _, rfl, rfl, rfl⟩
  case round =>
    obtain ⟨k, hk, rfl, rfl, rfl⟩ := hrel
    have b1 : (numN ranks (M.take k)).1 < 8192 := HNL.out k
    have b2 : (numN ranks (M.take k)).2 ≤ k := by have := HNO.out k; rw [List.length_take, Nat.min_eq_left hk] at this; simpa [numN] using this
    by_cases hkl : k < M.length
    · have hs := numN_snoc ranks M k hkl
      have b1' : (numN ranks (M.take (k + 1))).1 < 8192 := HNL.out (k + 1)
      obtain ⟨ad1, rfl, cx⟩ := Kd.at_int HC1.out (k : Int) (by omega) (by omega)
      rw [rd_ints, Int.toNat_natCast] at cx
      have hje : M.getD k 0 = M[k] := by simp [hkl]
      have hjn : M[k] < 12 := HML.out _ (List.getElem_mem hkl)
      rw [hje] at cx
      generalize M[k] = j at *
      generalize numN ranks (M.take k) = a at *
      obtain ⟨a1, a2⟩ := a
      simp only at b1 b2
      by_cases hjr : j < ranks.length
      · have h2 : numN ranks (M.take (k + 1)) = (a1 ||| 2 ^ (ranks.getD j 0), a2) := by rw [hs, numStep, if_pos hjr]
        have hrj : ranks.getD j 0 ≤ 12 := by
          rw [List.getD_eq_getElem?_getD, List.getElem?_eq_getElem hjr]
          exact HX.out _ (List.getElem_mem hjr)
        obtain ⟨ad, rfl, cr⟩ := Kd.at_int HR.out (j : Int) (by omega) (by omega)
        replace cr := (HB1.out.cell (World.block_lt_of_cell? w _ cr)).trans cr
        rw [rd_ints, Int.toNat_natCast] at cr
        generalize ranks.getD j 0 = rj at *
        have e1 : ((a1 ||| 2 ^ rj : Nat) : Int) = bits .or .i64 (a1 : Int) (wrap64 (2 ^ rj)) := by
          rw [wr_pow rj (by omega), b_or a1 _ (by omega) (Nat.pow_lt_pow_right (by decide) (by omega))]
        have H2 := Aside0.mk h2
        have E1 := Aside0.mk e1
        clear hs h2 e1 b1' hje
        go_wp2_with fail
        go_round
        case rel => exact ⟨k + 1, by omega, by go_num, by rw [H2.out, E1.out], by rw [H2.out]⟩
        case measure => simp [intOf]; omega
      · have h2 : numN ranks (M.take (k + 1)) = (a1, a2 + 1) := by rw [hs, numStep, if_neg hjr]
        have H2 := Aside0.mk h2
        clear hs h2 b1' hje
        go_wp2_with fail
        go_round
        case rel => exact ⟨k + 1, by omega, by go_num, by rw [H2.out], by rw [H2.out]; go_num⟩
        case measure => simp [intOf]; omega
    · obtain rfl : k = M.length := by omega
      have HF := Aside0.mk (show M.take M.length = M from List.take_length)
      rw [HF.out]
      go_wp2_with fail
      go_ret2
      exact ⟨rfl, HB1.out⟩
end Go.Proofs.YtmobefgnkiboaaaDoor.Sh
namespace Go.Proofs.YtmobefgnkiboaaaDoor.Sh
open Go.RowKit Go.Proofs.YtmobefgnkiboaaaDoorW.PrintWords Go.Proofs.YtmobefgnkiboaaaDoorW.PrintLast Go.Proofs.YtmobefgnkiboaaaDoorW.PrintMore
set_option linter.unusedVariables false
def posB (o ranks : List Nat) (i : Nat) : Bool :=
  !(numN ranks (memL (o.getD i 0))).1.testBit (ranks.getD i 0) && decide ((memL (andN (2 ^ (ranks.getD i 0) - 1) (numN ranks (memL (o.getD i 0))).1)).length ≤ (numN ranks (memL (o.getD i 0))).2)
def possB (o ranks : List Nat) : Bool := (List.range ranks.length).all (posB o ranks)
def PosTo (o ranks : List Nat) (k : Nat) : Prop := ∀ j, j < k → posB o ranks j = true
theorem PosTo.succ {o ranks : List Nat} {k : Nat} (h : PosTo o ranks k) (h1 : posB o ranks k = true) : PosTo o ranks (k + 1) := fun j hj => by
  rcases Nat.lt_or_ge j k with hlt | hge
  · exact h j hlt
  · obtain rfl : j = k := by omega
    exact h1
theorem possB_true {o ranks : List Nat} (h : PosTo o ranks ranks.length) : possB o ranks = true := by
  unfold possB; rw [List.all_eq_true]; exact fun x hx => h x (List.mem_range.1 hx)
theorem possB_false {o ranks : List Nat} {k : Nat} (hk : k < ranks.length) (h : posB o ranks k = false) : possB o ranks = false := by
  unfold possB; rw [List.all_eq_false]; exact ⟨k, List.mem_range.2 hk, by rw [h]; simp⟩
set_option maxHeartbeats 3200000 in
set_option maxRecDepth 100000 in
theorem possible_any (n : Nat) (o : List Nat) (A : Option Addr) (c : Nat) (ranks : List Nat) (w : World) (ok : Okt n o) (hr : Kd.C (Kd.int .i64) w A ranks.length (ints ranks)) (hc : ranks.length ≤ c) (hrl : ranks.length ≤ n) (hx : ∀ x ∈ ranks, x ≤ 12) :
    Calls Tryd.prog 36 #[.agg (tnN n o), .slice A ranks.length c] w fun e w' => e = .returned (.bool (possB o ranks)) ∧ Below w.heap.size w w' := by
  have HR := Aside0.mk hr
  have hlen : (ints ranks).length = ranks.length := ints_length ranks
  have HT : Aside0 (TnN (w.alloc (.cells (tnN n o) 47)) w.heap.size n o) := ⟨Blk.new _ _ _⟩
  have HB0 := Aside0.mk (below_alloc (Below.refl _ w) (.cells (tnN n o) 47))
  have HK := Aside0.mk ok
  have n12 := ok.n12
  have HX := Aside0.mk hx
  clear hr hx ok
  go_enter Tryd.func36, Tryd.ntmps36
  go_wp2_with fail
  generalize w.alloc (.cells (tnN n o) 47) = W at *
  go_loopw [12] (fun v wr => ∃ k : Nat, k ≤ ranks.length ∧ v = .int .i64 (k : Int) ∧ Aside0 (PosTo o ranks k) ∧ Aside0 (Below W.heap.size W wr)) (fun v _ => ranks.length - (intOf v).toNat)
  case atStart => exact ⟨0, Nat.zero_le _, rfl, ⟨fun j hj => absurd hj (by omega)⟩, ⟨Below.refl _ _⟩⟩
  case round =>
    obtain ⟨k, hk, rfl, HP, HB⟩ := hrel
    have HBw := Aside0.mk (below_then HB0.out HB0.out.size HB.out)
    by_cases hkl : k < ranks.length
    · obtain ⟨ad, rfl, cx⟩ := Kd.at_int HR.out (k : Int) (by omega) (by omega)
      replace cx := (HBw.out.cell (World.block_lt_of_cell? w _ cx)).trans cx
      rw [rd_ints, Int.toNat_natCast] at cx
      have hrj : ranks.getD k 0 ≤ 12 := by
        rw [List.getD_eq_getElem?_getD, List.getElem?_eq_getElem hkl]
        exact HX.out _ (List.getElem_mem hkl)
      have hN := numbers_any n o k (some ad) c ranks wr HK.out (by omega) (Kd.C_below HR.out HBw.out) hc (by omega) HX.out
      have hpos : posB o ranks k = (!(numN ranks (memL (o.getD k 0))).1.testBit (ranks.getD k 0) && decide ((memL (andN (2 ^ (ranks.getD k 0) - 1) (numN ranks (memL (o.getD k 0))).1)).length ≤ (numN ranks (memL (o.getD k 0))).2)) := rfl
      have hb1 : (numN ranks (memL (o.getD k 0))).1 < 8192 := numN_lt ranks HX.out _ (0, 0) (by decide)
      have hb2 : (numN ranks (memL (o.getD k 0))).2 ≤ 12 := by have := numN_open ranks (memL (o.getD k 0)) (0, 0); have := memL_len (o.getD k 0); simp only [numN] at *; omega
      generalize numN ranks (memL (o.getD k 0)) = a at *
      obtain ⟨a1, a2⟩ := a
      simp only at hb1 hb2 hN hpos
      generalize ranks.getD k 0 = r at *
      have hp2 : 2 ^ r ≤ 4096 := Nat.pow_le_pow_right (by decide) hrj
      have hp0 : 0 < 2 ^ r := Nat.two_pow_pos r
      have ea : bits .andNot .i64 (wrap64 (wrap64 (2 ^ r) - 1)) (a1 : Int) = ((andN (2 ^ r - 1) a1 : Nat) : Int) := by
        rw [wr_pow r (by omega), show ((2 ^ r : Nat) : Int) - 1 = ((2 ^ r - 1 : Nat) : Int) by omega, wr62' _ (by omega), b_andN _ _ (by omega) (by omega)]
      have hm4 : andN (2 ^ r - 1) a1 < 4096 := andN_lt _ _ 12 (by omega)
      have hMe := Aside0.mk (fun w => members_any (andN (2 ^ r - 1) a1) w hm4)
      rw [← ea] at hMe
      have hml := memL_len (andN (2 ^ r - 1) a1)
      rw [show memL (andN (2 ^ r - 1) a1) = mem12 (andN (2 ^ r - 1) a1) 0 from rfl] at *
      generalize mem12 (andN (2 ^ r - 1) a1) 0 = M at *
      have hlm : (ints M).length = M.length := ints_length M
      have e1 := b_bit1 a1 r (by omega)
      have HT2 := Aside0.mk (Blk.later HT.out HB.out)
      have HN := Aside0.mk hN
      have HPS := Aside0.mk hpos
      clear hN hpos ea hp2 hp0
      have hsz := Aside0.mk (tn_info n o HK.out.len)
      go_wp2_with (refine wpList_load_row rfl 47 _ rfl w.heap.size rfl 47 (tnN n o) (0, 0) _ HT2.out Tryd.underlying47 rfl hsz.out ?_)
      refine HN.out.mono ?_
      rintro e w2 ⟨rfl, hb2⟩
      have HB2 := Aside0.mk (below_then HB.out HB.out.size hb2)
      clear hb2
      go_wp2_with fail
      refine (hMe.out _).mono ?_
      rintro e w3 ⟨v3, rfl, hr3, hb3⟩
      obtain ⟨A3, c3, rfl, hl3, hC3⟩ := Kd.R_reads hr3
      rw [hlm] at hl3 ⊢
      have HB3 := Aside0.mk (below_then HB2.out HB2.out.size hb3)
      clear hb3 hC3 hr3 hMe
      cases hbit : a1.testBit r
      · rw [hbit] at e1
        have HP1 := Aside0.mk (show posB o ranks k = decide (M.length ≤ a2) by rw [HPS.out, hbit]; rfl)
        clear hbit
        by_cases hle : M.length ≤ a2
        · have HP2 := Aside0.mk (HP.out.succ (HP1.out.trans (decide_eq_true hle)))
          have d1 : ¬ ((a2 : Int) < (M.length : Int)) := by omega
          go_wp2_with fail
          go_roundw
          case rel => exact ⟨k + 1, by omega, by go_num, HP2, HB3⟩
          case measure => simp [intOf]; omega
        · have HF := Aside0.mk (possB_false hkl (HP1.out.trans (decide_eq_false hle)))
          have d1 : (a2 : Int) < (M.length : Int) := by omega
          go_wp2_with fail
          go_ret
          exact ⟨by rw [HF.out]; rfl, below_then HB0.out HB0.out.size HB3.out⟩
      · rw [hbit] at e1
        have HF := Aside0.mk (possB_false hkl (show posB o ranks k = false by rw [HPS.out, hbit]; rfl))
        clear hbit
        go_wp2_with fail
        go_ret
        exact ⟨by rw [HF.out]; rfl, below_then HB0.out HB0.out.size HB3.out⟩
    · obtain rfl : k = ranks.length := by omega
      have HF := Aside0.mk (possB_true HP.out)
      go_wp2_with fail
      go_ret
      exact ⟨by rw [HF.out]; rfl, HBw.out⟩
set_option maxHeartbeats 800000 in
theorem ranked_any (n : Nat) (o : List Nat) (A : Option Addr) (c : Nat) (ranks : List Nat) (w : World) (ok : Okt n o) (hr : Kd.C (Kd.int .i64) w A ranks.length (ints ranks)) (hc : ranks.length ≤ c) (hrl : ranks.length ≤ n) (hx : ∀ x ∈ ranks, x ≤ 12) :
    Calls Tryd.prog 35 #[.agg (tnN n o), .slice A ranks.length c] w fun e w' => e = .returned (.bool (possB o ranks)) ∧ Below w.heap.size w w' := by
  have HT : Aside0 (TnN (w.alloc (.cells (tnN n o) 47)) w.heap.size n o) := ⟨Blk.new _ _ _⟩
  have HB0 := Aside0.mk (below_alloc (Below.refl _ w) (.cells (tnN n o) 47))
  have hsz := Aside0.mk (tn_info n o ok.len)
  have HP := Aside0.mk (possible_any n o A c ranks (w.alloc (.cells (tnN n o) 47)) ok (Kd.C_below hr HB0.out) hc hrl hx)
  clear hr hx ok
  go_enter Tryd.func35, Tryd.ntmps35
  go_wp2_with (refine wpList_load_row rfl 47 _ rfl w.heap.size rfl 47 (tnN n o) (0, 0) _ HT.out Tryd.underlying47 rfl hsz.out ?_)
  refine HP.out.mono ?_
  rintro e w2 ⟨rfl, hb2⟩
  have HB2 := Aside0.mk (below_then HB0.out HB0.out.size hb2)
  clear hb2
  go_wp2_with fail
  go_ret
  exact ⟨rfl, HB2.out⟩
end Go.Proofs.YtmobefgnkiboaaaDoor.Sh
namespace Go.Proofs.YtmobefgnkiboaaaDoor.Sh
open Go.RowKit Go.Proofs.YtmobefgnkiboaaaDoorW.PrintWords Go.Proofs.YtmobefgnkiboaaaDoorW.PrintLast Go.Proofs.YtmobefgnkiboaaaDoorW.PrintMore
set_option linter.unusedVariables false
def rankF (o : List Nat) : Nat → List Nat → Option (List Nat)
  | 0, ranks => if possB o ranks then some ranks else none
  | d + 1, ranks => (List.range ((memL (o.getD ranks.length 0)).length + 1)).findSome? fun r => if possB o (ranks ++ [r]) then rankF o d (ranks ++ [r]) else none
def mosts (n : Nat) (o : List Nat) : List Nat := (List.range n).map fun i => (memL (o.getD i 0)).length
theorem mosts_len (n : Nat) (o : List Nat) : (mosts n o).length = n := by simp [mosts]
theorem mosts_get (n : Nat) (o : List Nat) (i : Nat) (h : i < n) : (mosts n o).getD i 0 = (memL (o.getD i 0)).length := by simp [mosts, h]
structure RankB (w : World) (gn gt gv gm go n : Nat) (o : List Nat) : Prop where
  bn : Blk w gn 3 #[.int .i64 (n : Nat)]
  bt : TnN w gt n o
  bv : Blk w gv 23 #[.slice (some ⟨gm, 0, none⟩) n n]
  bm : Kd.C (Kd.int .i64) w (some ⟨gm, 0, none⟩) n (ints (mosts n o))
  bo : Blk w go 67 #[.func (.func 34) #[] #[.pointer (some ⟨gn, 0, none⟩), .pointer (some ⟨gt, 0, none⟩), .pointer (some ⟨gv, 0, none⟩), .pointer (some ⟨go, 0, none⟩)]]
theorem RankB.later {w w' : World} {gn gt gv gm go n : Nat} {o : List Nat} (h : RankB w gn gt gv gm go n o) (hb : Below w.heap.size w w') : RankB w' gn gt gv gm go n o :=
  ⟨h.bn.later hb, Blk.later h.bt hb, h.bv.later hb, Kd.C_below h.bm hb, h.bo.later hb⟩
set_option maxHeartbeats 3200000 in
set_option maxRecDepth 100000 in
theorem rank1_any (gn gt gv gm go n : Nat) (o : List Nat) (ok : Okt n o) (d : Nat) :
    ∀ (ranks : List Nat) (A : Option Addr) (c : Nat) (w : World), ranks.length + d = n → (∀ x ∈ ranks, x ≤ 12) → RankB w gn gt gv gm go n o →
      Kd.C (Kd.int .i64) w A ranks.length (ints ranks) → (A = none → ranks.length = 0) → ranks.length ≤ c →
      Calls Tryd.prog 34 #[.slice A ranks.length c, .pointer (some ⟨gn, 0, none⟩), .pointer (some ⟨gt, 0, none⟩), .pointer (some ⟨gv, 0, none⟩), .pointer (some ⟨go, 0, none⟩)] w (FoundP w (rankF o d ranks)) := by
  have qn : ∀ (w : World) (a : Option Addr) (n c n' c' : Nat), (binOp .neq 23 (.slice a n c) (.slice none n' c')).run Tryd.prog w = .ok (.bool (!a.isNone)) w := fun w a n c n' c' => run_neq_slice_nil_any w _ _ a n c n' c' Tryd.underlying23
  have n12 := ok.n12
  induction d with
  | zero =>
    intro ranks A c w hl hx hB hr hA hc
    have hlen : (ints ranks).length = ranks.length := ints_length ranks
    have hn1 := ok.n1
    obtain ⟨ad, rfl⟩ := C_some (by rw [hlen]; exact hr) (by omega)
    have cn : w.cell? ⟨gn, 0, none⟩ = some (.int .i64 (n : Nat)) := hB.bn.cell 0
    have hRk := Aside0.mk (ranked_any n o (some ad) c ranks w ok hr hc (by omega) hx)
    have hR : rankF o 0 ranks = if possB o ranks then some ranks else none := rfl
    rw [hR]
    have HR := Aside0.mk hr
    have HT := Aside0.mk hB.bt
    have HL := Aside0.mk hlen
    have hsz := Aside0.mk (tn_info n o ok.len)
    have neq : ((ranks.length : Int) == (n : Int)) = true := beq_iff_eq.2 (by omega)
    clear hR hB hr
    cases hb : possB o ranks
    · rw [hb] at hRk
      rw [if_neg (by simp)]
      clear hb
      go_enter Tryd.func34, Tryd.ntmps34
      go_wp2_with (refine wpList_load_row rfl 47 _ rfl gt rfl 47 (tnN n o) (0, 0) _ HT.out Tryd.underlying47 rfl hsz.out ?_)
      refine hRk.out.mono ?_
      rintro e w2 ⟨rfl, hb2⟩
      have HB2 := Aside0.mk hb2
      clear hb2
      go_wp2_with fail
      go_ret
      exact ⟨rfl, HB2.out⟩
    · rw [hb] at hRk
      rw [if_pos rfl]
      clear hb
      go_enter Tryd.func34, Tryd.ntmps34
      go_wp2_with (refine wpList_load_row rfl 47 _ rfl gt rfl 47 (tnN n o) (0, 0) _ HT.out Tryd.underlying47 rfl hsz.out ?_)
      refine hRk.out.mono ?_
      rintro e w2 ⟨rfl, hb2⟩
      have HB2 := Aside0.mk hb2
      have HR2 := Aside0.mk (Kd.C_below HR.out hb2)
      clear hb2
      go_wp2_with fail
      go_ret
      exact ⟨ad, c, by rw [HL.out]; rfl, by rw [HL.out]; exact hc, by rw [HL.out]; exact HR2.out, HB2.out⟩
  | succ d ih =>
    intro ranks A c w hl hx hB hr hA hc
    have IH := Aside0.mk ih
    have hlen : (ints ranks).length = ranks.length := ints_length ranks
    have cn : w.cell? ⟨gn, 0, none⟩ = some (.int .i64 (n : Nat)) := hB.bn.cell 0
    have cv : w.cell? ⟨gv, 0, none⟩ = some (.slice (some ⟨gm, 0, none⟩) n n) := hB.bv.cell 0
    obtain ⟨_, e0, cm⟩ := Kd.at_int hB.bm (ranks.length : Int) (by omega) (by omega)
    cases e0
    rw [rd_ints, mosts_get n o _ (by omega), Int.toNat_natCast] at cm
    have cm' : w.cell? ⟨gm, ranks.length, none⟩ = some (.int .i64 ((memL (o.getD ranks.length 0)).length : Nat)) := by
      have e : (⟨gm, 0, none⟩ : Addr).add ranks.length = ⟨gm, ranks.length, none⟩ := by unfold Addr.add; split <;> simp_all
      rwa [e] at cm
    have hR : rankF o (d + 1) ranks = (List.range ((memL (o.getD ranks.length 0)).length + 1)).findSome? fun r => if possB o (ranks ++ [r]) then rankF o d (ranks ++ [r]) else none := rfl
    rw [hR]
    have hml := memL_len (o.getD ranks.length 0)
    generalize (memL (o.getD ranks.length 0)).length = most at *
    obtain ⟨gg, hgg⟩ : ∃ gg : Nat → Option (List Nat), gg = fun r => if possB o (ranks ++ [r]) then rankF o d (ranks ++ [r]) else none := ⟨_, rfl⟩
    have HGG := Aside0.mk (fun j => congrFun hgg j)
    rw [← hgg]
    obtain ⟨R, hRR⟩ : ∃ R, (List.range (most + 1)).findSome? gg = R := ⟨_, rfl⟩
    rw [hRR]
    have HRR := Aside0.mk hRR
    have HR := Aside0.mk hr
    have HBB := Aside0.mk hB
    have HX := Aside0.mk hx
    have HA := Aside0.mk hA
    have hsz := Aside0.mk (tn_info n o ok.len)
    have HK := Aside0.mk ok
    have neq : ((ranks.length : Int) == (n : Int)) = false := beq_eq_false_iff_ne.2 (by omega)
    clear hR hB hr hx hA ih hRR hgg cm ok
    go_enter Tryd.func34, Tryd.ntmps34
    go_wp2_with fail
    go_loopw [25] (fun v wr => ∃ k : Nat, k ≤ most + 1 ∧ v = .int .i64 (k : Int) ∧ Aside0 (noneTo (List.range (most + 1)) gg k) ∧ Aside0 (Below w.heap.size w wr)) (fun v _ => most + 1 - (intOf v).toNat)
    case atStart => exact ⟨0, Nat.zero_le _, rfl, ⟨noneTo_zero _ _⟩, ⟨Below.refl _ _⟩⟩
    case round =>
      obtain ⟨k, hk, rfl, HN, HB⟩ := hrel
      by_cases hkl : k < most + 1
      · have HN1 := Aside0.mk (fun h => noneTo_succ HN.out (by rw [List.length_range]; exact hkl) h)
        have HN2 := Aside0.mk (fun r h => noneTo_some (r := r) HN.out (by rw [List.length_range]; exact hkl) h)
        simp only [List.getElem_range] at HN1 HN2
        have HBr := Aside0.mk (HBB.out.later HB.out)
        have HRr := Aside0.mk (Kd.C_below HR.out HB.out)
        have HGk := Aside0.mk (HGG.out k)
        have hb3 : Below wr.heap.size wr (wr.alloc (.cells #[.int .i64 (k : Nat)] 3)) := below_alloc (Below.refl _ _) _
        have HC3 := Aside0.mk (Kd.C_below HRr.out hb3)
        have HB3 := Aside0.mk (below_then HB.out HB.out.size hb3)
        have HBr3 := Aside0.mk (HBr.out.later hb3)
        have hg3 := Aside0.mk ((Blk.new wr 3 #[.int .i64 (k : Nat)]).cell 0)
        have ex : ints (ranks ++ [k]) = ints ranks ++ [(k : Int)] := ints_snoc ranks k
        have HE := Aside0.mk ex
        have hl2 : (ints (ranks ++ [k])).length = ranks.length + 1 := by rw [ints_length, List.length_append]; rfl
        have hl3 : (ranks ++ [k]).length = ranks.length + 1 := by rw [List.length_append]; rfl
        have HX2 : Aside0 (∀ x ∈ ranks ++ [k], x ≤ 12) := ⟨fun x hx => by rcases List.mem_append.1 hx with h | h; exact HX.out x h; rw [List.mem_singleton.1 h]; omega⟩
        clear hb3 hl2
        generalize ranks ++ [k] = rk at *
        clear ex
        go_wp2_with (first | (refine l_slice3 rfl rfl A ranks.length c rfl rfl rfl hc ?_) | (at_builtin; refine l_app1 rfl (s := .tmp 31) (x := .tmp 33) rfl rfl A (ints ranks) wr.heap.size (k : Nat) (by rw [hlen]; rfl) rfl (by rw [hlen]; exact HC3.out) hg3.out (by rw [hlen]; omega) (by rw [hlen]; exact HA.out) ?_; intro v4 w4 hr4 hb4; have HR4 := Aside0.mk hr4; have HB4 := Aside0.mk hb4; have HBr4 := Aside0.mk (HBr3.out.later hb4); clear hr4 hb4) | (refine wpList_load_row rfl 47 _ rfl gt rfl 47 (tnN n o) (0, 0) _ (by have h := HBr4.out.bt; exact h) Tryd.underlying47 rfl hsz.out ?_))
        obtain ⟨A4, c4, rfl, hl4, hC4⟩ := Kd.R_reads HR4.out
        rw [← HE.out, ints_length] at hl4 hC4 ⊢
        have hn4 : A4 = none → rk.length = 0 := fun h => by subst h; have := C_none (l := ints rk) (by rw [ints_length]; exact hC4); rw [← ints_length, this]; rfl
        have HN4 := Aside0.mk hn4
        have HC4 := Aside0.mk hC4
        have HBw4 := Aside0.mk (below_then HB3.out HB3.out.size HB4.out)
        have hgk := HGk.out
        have hPo := possible_any n o A4 c4 rk w4 HK.out hC4 hl4 (by omega) HX2.out
        clear HGk hC4 hn4 HR4 HE
        cases hpb : possB o rk
        · rw [hpb, if_neg (by simp)] at hgk
          rw [hpb] at hPo
          have HPo := Aside0.mk hPo
          have HNx := Aside0.mk (HN1.out hgk)
          clear hpb hgk hPo HN1 HN2 hl3
          refine HPo.out.mono ?_
          rintro e w5 ⟨rfl, hb5⟩
          have HB5 := Aside0.mk (below_then HBw4.out HBw4.out.size hb5)
          clear hb5
          go_wp2_with fail
          go_roundw
          case rel => exact ⟨k + 1, by omega, by go_num, HNx, HB5⟩
          case measure => simp [intOf]; omega
        · rw [hpb, if_pos rfl] at hgk
          rw [hpb] at hPo
          have HPo := Aside0.mk hPo
          clear hpb hPo
          refine HPo.out.mono ?_
          rintro e w5 ⟨rfl, hb5⟩
          have HB5 := Aside0.mk (below_then HBw4.out HBw4.out.size hb5)
          have HBr5 := Aside0.mk (HBr4.out.later hb5)
          have co : w5.cell? ⟨go, 0, none⟩ = some (.func (.func 34) #[] #[.pointer (some ⟨gn, 0, none⟩), .pointer (some ⟨gt, 0, none⟩), .pointer (some ⟨gv, 0, none⟩), .pointer (some ⟨go, 0, none⟩)]) := HBr5.out.bo.cell 0
          have HC5 := Aside0.mk (Kd.C_below HC4.out hb5)
          have hIH := IH.out rk A4 c4 w5 (by omega) HX2.out HBr5.out HC5.out HN4.out hl4
          clear hb5
          cases hro : rankF o d rk with
          | none =>
            rw [hro] at hgk hIH
            have HI := Aside0.mk hIH
            have HNx := Aside0.mk (HN1.out hgk)
            clear hro hgk hIH HN1 HN2 hl3
            go_wp2_with fail
            refine HI.out.mono ?_
            rintro e w6 ⟨rfl, hb6⟩
            have HB6 := Aside0.mk (below_then HB5.out HB5.out.size hb6)
            clear hb6
            go_wp2_with fail
            go_roundw
            case rel => exact ⟨k + 1, by omega, by go_num, HNx, HB6⟩
            case measure => simp [intOf]; omega
          | some res =>
            rw [hro] at hgk hIH
            have HI := Aside0.mk hIH
            have HF := Aside0.mk (HRR.out.symm.trans (HN2.out res hgk))
            clear hro hgk hIH HN1 HN2 hl3
            go_wp2_with fail
            refine HI.out.mono ?_
            rintro e w6 ⟨A6, c6, rfl, hl6, hC6, hb6⟩
            have HB6 := Aside0.mk (below_then HB5.out HB5.out.size hb6)
            have HC6 := Aside0.mk hC6
            have HL6 := Aside0.mk hl6
            clear hb6 hC6 hl6
            go_wp2_with fail
            go_ret
            rw [HF.out]
            exact ⟨A6, c6, rfl, HL6.out, HC6.out, HB6.out⟩
      · obtain rfl : k = most + 1 := by omega
        have HF := Aside0.mk (HRR.out.symm.trans (noneTo_all (l := List.range (most + 1)) (g := gg) (by rw [List.length_range]; exact HN.out)))
        go_wp2_with fail
        go_ret
        rw [HF.out]
        exact ⟨rfl, HB.out⟩
end Go.Proofs.YtmobefgnkiboaaaDoor.Sh
namespace Go.Proofs.YtmobefgnkiboaaaDoor.Sh
open Go.RowKit Go.Proofs.YtmobefgnkiboaaaDoorW.PrintWords Go.Proofs.YtmobefgnkiboaaaDoorW.PrintLast Go.Proofs.YtmobefgnkiboaaaDoorW.PrintMore
set_option linter.unusedVariables false
theorem run_storeAt_int (w : World) (ad : Addr) (u : Value) (v : Int) (hc : w.cell? ad = some u) (hf : w.frozen? ad = false) :
    (Instr.storeAt 3 (.pointer (some ad)) (.int .i64 v)).run Tryd.prog w = .ok () (w.setCell ad (.int .i64 v)) := by
  go_simp
theorem ex_store1 {a : Act} {o : Oper} {x y : Operand} (ho : o.op = .store 3 x y) (w : World) (ad : Addr) (u : Value) (v : Int) (hx : a.eval x = .pointer (some ad)) (hy : a.eval y = .int .i64 v) (hc : w.cell? ad = some u) (hf : w.frozen? ad = false) :
    (execOp a.eval o).run Tryd.prog w = .ok .skip (w.setCell ad (.int .i64 v)) := by
  have hl := run_storeAt_int w ad u v hc hf
  unfold execOp
  simp [ho, hx, hy, hl, Result.andThen]
section
variable {ops : Array Oper} {Q : Exit → Act → World → Prop} {md : Region.Mode} {S : World → Prop}
theorem rs {P : Program} {i : Nat} {o : Oper} {fuel : Nat} {listed : Array Bool} {a : Act} {w w' : World} (hr : Region.ready md ops listed = [i]) (hi : ops[i]? = some o) (hd : o.dst = none)
    (hw : Region.wanted o (yielded ops a.tmps) = true) (hx : (execOp a.eval o).run P w = .ok .skip w')
    (hS : S w') (h : wpAnyH P md ops Q S fuel (listed.setIfInBounds i true) a w') : wpAnyH P md ops Q S (fuel + 1) listed a w :=
  ro_one hr (ro_skip hi hw hx ⟨hS, by rw [hd]; exact h⟩)
end
theorem C_nil (w : World) : Kd.C (Kd.int .i64) w none ([] : List Nat).length (ints []) := ⟨rfl, by simp, fun h => absurd h (by simp)⟩
theorem made_nums (m : Nat) : madeCells #[Value.int .i64 0] m = (nums .i64 (List.replicate m 0)).toArray := by
  apply Array.ext'
  apply List.ext_getElem
  · simp [nums, madeCells]
  · intro i h1 h2
    simp [nums, madeCells, Nat.mod_one]
def numsA (l : List Nat) : Array Value := (nums .i64 (ints l)).toArray
theorem numsA_get (l : List Nat) (i : Nat) (h : i < l.length) : (numsA l)[i]? = some (.int .i64 (l.getD i 0 : Nat)) := by
  simp [numsA, nums, ints, h]
theorem numsA_set (l : List Nat) (i v : Nat) : (numsA l).setIfInBounds i (.int .i64 (v : Nat)) = numsA (l.set i v) := by
  simp [numsA, nums, ints, List.map_set]
theorem numsA_zero (m : Nat) : madeCells #[Value.int .i64 0] m = numsA (List.replicate m 0) := by
  rw [made_nums]; simp [numsA, ints]
def fillTo (l : List Nat) (k : Nat) : List Nat := l.take k ++ List.replicate (l.length - k) 0
theorem fillTo_len (l : List Nat) (k : Nat) (h : k ≤ l.length) : (fillTo l k).length = l.length := by simp [fillTo]; omega
theorem fillTo_zero (l : List Nat) : fillTo l 0 = List.replicate l.length 0 := by simp [fillTo]
theorem fillTo_all (l : List Nat) : fillTo l l.length = l := by simp [fillTo]
theorem fillTo_set (l : List Nat) (k : Nat) (h : k < l.length) : (fillTo l k).set k (l.getD k 0) = fillTo l (k + 1) := by
  unfold fillTo
  have e1 : l.length - k = (l.length - (k + 1)) + 1 := by omega
  have e2 : (l.take k).length = k := by rw [List.length_take]; omega
  have e3 : l.getD k 0 = l[k] := by simp [h]
  rw [e1, List.replicate_succ, List.set_append_right _ _ (by omega), e2, Nat.sub_self, List.set_cons_zero, e3, List.take_succ_eq_append_getElem h, List.append_assoc]
  rfl
theorem C_nums {w : World} {g : Nat} {l : List Nat} (h : Blk w g 3 (numsA l)) (hl : l.length < 1000000) : Kd.C (Kd.int .i64) w (some ⟨g, 0, none⟩) l.length (ints l) := by
  have h1 : w.ownsRow 0 3 1 (.slice (some ⟨g, 0, none⟩) (ints l).length l.length) (ints l).length (encs (Value.int .i64) (ints l)) :=
    ⟨by simp [encs], .inr ⟨g, l.length, numsA l, rfl, Nat.zero_le _, h, by rw [ints_length]; exact Nat.le_refl _, by unfold maxLen; omega, by simp [numsA, nums, ints], by
      have e : (numsA l).toList = encs (Value.int .i64) (ints l) := by simp [numsA, nums, encs]
      rw [e]
      exact List.take_of_length_le (by simp [encs])⟩⟩
  have h2 : Kd.R (Kd.int .i64) 3 w 0 (fun _ => True) (.slice (some ⟨g, 0, none⟩) (ints l).length l.length) (ints l) := Kd.R_of_own h1 (fun _ _ => trivial)
  obtain ⟨A, c, e, _, hC⟩ := Kd.R_reads h2
  injection e with e1
  rw [← e1, ints_length] at hC
  exact hC
theorem ex_idx48 {a : Act} {o : Oper} {x y : Operand} (ho : o.op = .indexAddr 45 x y) (w : World) (g k : Nat) (hx : a.eval x = .pointer (some ⟨g, 1, none⟩)) (hy : a.eval y = .int .i64 (k : Nat)) (hk : k < 12) :
    (execOp a.eval o).run Tryd.prog w = .ok (.value (.pointer (some ⟨g, 1 + k, none⟩))) w := by
  have h0 : (0 : Int) ≤ k := by omega
  have h1 : (k : Int) < 12 := by omega
  have hl : (Instr.indexAt 45 (.pointer (some ⟨g, 1, none⟩)) (.int .i64 (k : Nat))).run Tryd.prog w = .ok (.pointer (some ⟨g, 1 + k, none⟩)) w := by go_simp
  unfold execOp
  simp [ho, hx, hy, hl, Result.andThen]
theorem ex_idx25 {a : Act} {o : Oper} {x y : Operand} (ho : o.op = .indexAddr 23 x y) (w : World) (g k n c : Nat) (hx : a.eval x = .slice (some ⟨g, 0, none⟩) n c) (hy : a.eval y = .int .i64 (k : Nat)) (hk : k < n) :
    (execOp a.eval o).run Tryd.prog w = .ok (.value (.pointer (some ⟨g, k, none⟩))) w := by
  have h0 : (0 : Int) ≤ k := by omega
  have h1 : (k : Int) < n := by omega
  have hl : (Instr.indexAt 23 (.slice (some ⟨g, 0, none⟩) n c) (.int .i64 (k : Nat))).run Tryd.prog w = .ok (.pointer (some ⟨g, k, none⟩)) w := by go_simp
  unfold execOp
  simp [ho, hx, hy, hl, Result.andThen]
def RanksPost (n : Int) (l : List S43) (w : World) (e : Ending) (w' : World) : Prop :=
  if ofE n l = 0 then FoundE w (rankF (townO l) n.toNat []) e w'
  else e = .returned (.tuple #[.slice none 0 0, .int .i64 (ofE n l)]) ∧ Below w.heap.size w w'
set_option maxHeartbeats 3200000 in
set_option maxRecDepth 100000 in
theorem Ranks_any (n : Int) (A : Option Addr) (c : Nat) (l : List S43) (w : World) (hr : Kd.C k43 w A l.length l) (hc : l.length ≤ c) :
    Calls Tryd.prog 17 #[.int .i64 n, .slice A l.length c] w (RanksPost n l w) := by
  have hmf : ∀ (fn : Fn) (first cap : Array Value) (w : World), (Instr.makeFunc fn first cap).run Tryd.prog w = .ok (.func fn first cap) w := fun _ _ _ _ => rfl
  have hsf := fun (a : Addr) (c : Array Value) (w : World) => run_store Tryd.prog w a (.func (.func 34) #[] c) .plain rfl
  have qn : ∀ (w : World) (a : Option Addr) (n c n' c' : Nat), (binOp .neq 23 (.slice a n c) (.slice none n' c')).run Tryd.prog w = .ok (.bool (!a.isNone)) w := fun w a n c n' c' => run_neq_slice_nil_any w _ _ a n c n' c' Tryd.underlying23
  have HO := Aside0.mk (fun w h => of_A n A c l w h hc)
  have HZ := Aside0.mk (ofA_size n l)
  have H1 := Aside0.mk (ofA_one n l)
  have HB0 := Aside0.mk (below_alloc (Below.refl _ w) (.cells #[.int .i64 n] 3))
  have HC0 := Aside0.mk (Kd.C_below hr HB0.out)
  have HN0 := Aside0.mk (Blk.new w 3 #[.int .i64 n])
  clear hr hc
  by_cases he : ofE n l = 0
  · have ok := okt_of he
    have hA : ofA n l = tnN n.toNat (townO l) := by rw [ofA, if_pos he]
    have hK : RanksPost n l w = FoundE w (rankF (townO l) n.toNat []) := by funext e w'; simp [RanksPost, he]
    have hnn := (ofE_ok he).1
    rw [hK]
    rw [hA] at HO HZ H1
    rw [he] at HO
    clear he hA hK
    generalize townO l = o at *
    obtain ⟨m, rfl⟩ : ∃ m : Nat, n = m := ⟨n.toNat, by omega⟩
    rw [Int.toNat_natCast] at *
    have HK := Aside0.mk ok
    have n12 := ok.n12
    have hmk := print_make (P := Tryd.prog) 23 3 .i64 8 Tryd.underlying23 info3 (by decide) m (by omega)
    simp only [numsA_zero] at hmk
    obtain ⟨R, hR⟩ : ∃ R, rankF o m [] = R := ⟨_, rfl⟩
    rw [hR]
    have HR := Aside0.mk hR
    clear ok hnn hR
    go_enter Tryd.func17, Tryd.ntmps17
    go_wp2_with fail
    refine (HO.out _ HC0.out).mono ?_
    rintro e w1 ⟨rfl, hb⟩
    have HB := Aside0.mk (below_then HB0.out HB0.out.size hb)
    have HN1 := Aside0.mk (HN0.out.later hb)
    have cn := HN1.out.cell 0
    simp only [List.getElem?_toArray, List.getElem?_cons_zero] at cn
    clear hb HO
    have cn1 : (w1.alloc (.cells (tnN m o) 47)).cell? ⟨w.heap.size, 0, none⟩ = some (.int .i64 (m : Nat)) := (HN1.out.alloc _).cell 0
    have cn2 : (((w1.alloc (.cells (tnN m o) 47)).alloc (.cells (numsA (List.replicate m 0)) 3)).alloc (.cells #[.slice (some ⟨w1.heap.size + 1, 0, none⟩) m m] 23)).cell? ⟨w.heap.size, 0, none⟩ = some (.int .i64 (m : Nat)) := (((HN1.out.alloc _).alloc _).alloc _).cell 0
    clear cn
    have HB2 : Aside0 (Below w.heap.size w (((w1.alloc (.cells (tnN m o) 47)).alloc (.cells (numsA (List.replicate m 0)) 3)).alloc (.cells #[.slice (some ⟨w1.heap.size + 1, 0, none⟩) m m] 23))) := ⟨below_alloc (below_alloc (below_alloc HB.out _) _) _⟩
    have HT2 : Aside0 (TnN (((w1.alloc (.cells (tnN m o) 47)).alloc (.cells (numsA (List.replicate m 0)) 3)).alloc (.cells #[.slice (some ⟨w1.heap.size + 1, 0, none⟩) m m] 23)) w1.heap.size m o) := ⟨((Blk.new w1 47 (tnN m o)).alloc _).alloc _⟩
    have HM2 : Aside0 (Blk (((w1.alloc (.cells (tnN m o) 47)).alloc (.cells (numsA (List.replicate m 0)) 3)).alloc (.cells #[.slice (some ⟨w1.heap.size + 1, 0, none⟩) m m] 23)) (w1.heap.size + 1) 3 (numsA (fillTo (mosts m o) 0))) := ⟨by rw [fillTo_zero, mosts_len]; exact (Blk.new' (by simp)).alloc _⟩
    have HV2 : Aside0 (Blk (((w1.alloc (.cells (tnN m o) 47)).alloc (.cells (numsA (List.replicate m 0)) 3)).alloc (.cells #[.slice (some ⟨w1.heap.size + 1, 0, none⟩) m m] 23)) (w1.heap.size + 1 + 1) 23 #[.slice (some ⟨w1.heap.size + 1, 0, none⟩) m m]) := ⟨Blk.new' (by simp)⟩
    have HN2 : Aside0 (Blk (((w1.alloc (.cells (tnN m o) 47)).alloc (.cells (numsA (List.replicate m 0)) 3)).alloc (.cells #[.slice (some ⟨w1.heap.size + 1, 0, none⟩) m m] 23)) w.heap.size 3 #[.int .i64 (m : Nat)]) := ⟨((HN1.out.alloc _).alloc _).alloc _⟩
    have HD : Aside0 (w1.heap.size ≠ w1.heap.size + 1 ∧ w1.heap.size + 1 + 1 ≠ w1.heap.size + 1 ∧ w.heap.size ≠ w1.heap.size + 1 ∧ w.heap.size ≤ w1.heap.size + 1) := ⟨by have := HB.out.size; omega⟩
    go_wp2_with (refine wpList_store_row rfl 47 _ _ rfl w1.heap.size (tnN m o) rfl rfl 47 (tnN 0 zero12) (heap_alloc_new w1 _) (by rw [info50, HZ.out]) (by rw [HZ.out]; rfl) H1.out ?_; rw [World.setRow_alloc_new])
    clear cn1 cn2 hmk HN1 HB HB0 HC0 HN0
    generalize w1.heap.size + 1 + 1 = g8 at *
    generalize w1.heap.size + 1 = gm at *
    generalize w1.heap.size = g6 at *
    generalize ((w1.alloc (.cells (tnN m o) 47)).alloc (.cells (numsA (List.replicate m 0)) 3)).alloc (.cells #[.slice (some ⟨gm, 0, none⟩) m m] 23) = W2 at *
    go_loopw [24] (fun v wr => ∃ k : Nat, k ≤ m ∧ v = .int .i64 (k : Int) ∧ Aside0 (Below w.heap.size w wr) ∧ Aside0 (TnN wr g6 m o) ∧ Aside0 (Blk wr g8 23 #[.slice (some ⟨gm, 0, none⟩) m m]) ∧ Aside0 (Blk wr w.heap.size 3 #[.int .i64 (m : Nat)]) ∧ Aside0 (Blk wr gm 3 (numsA (fillTo (mosts m o) k)))) (fun v _ => m - (intOf v).toNat)
    case atStart => exact ⟨0, Nat.zero_le _, rfl, HB2, HT2, HV2, HN2, HM2⟩
    case round =>
      obtain ⟨k, hk, rfl, HBr, HTr, HVr, HN, HMM⟩ := hrel
      by_cases hkl : k < m
      · obtain ⟨nx, hnx⟩ : ∃ nx, o.getD k 0 = nx := ⟨_, rfl⟩
        have hn4 : nx < 4096 := by rw [← hnx]; exact Nat.lt_of_lt_of_le (HK.out.lt _) (Nat.pow_le_pow_right (by decide) HK.out.n12 : 2 ^ m ≤ 2 ^ 12)
        have HNX := Aside0.mk hnx
        have HM := Aside0.mk (fun w => members_any nx w hn4)
        obtain ⟨M, hM⟩ : ∃ M, mem12 nx 0 = M := ⟨_, rfl⟩
        have HMl : Aside0 ((memL nx).length = M.length) := ⟨by rw [← hM]; rfl⟩
        rw [hM] at HM
        have hlm : (ints M).length = M.length := ints_length M
        have hS0 : Aside0 (TnN wr.drew g6 m o ∧ Blk wr.drew g8 23 #[.slice (some ⟨gm, 0, none⟩) m m] ∧ Below w.heap.size w wr.drew) := ⟨HTr.out, HVr.out, below_drew HBr.out⟩
        clear hnx hM
        go_wp2_with fail
        refine wp_region_held (S := fun wx => TnN wx g6 m o ∧ Blk wx g8 23 #[.slice (some ⟨gm, 0, none⟩) m m] ∧ Below w.heap.size w wx) (by kernel_rfl) ?_
        refine tk (i := 0) 27 (v := .slice (some ⟨gm, 0, none⟩) m m) rfl rfl (by kernel_rfl) (by kernel_rfl) (by kernel_rfl) (fun _ _ _ h => h) (by kernel_rfl) (fun wx h => ex_load1 rfl wx ⟨g8, 0, none⟩ _ rfl (h.2.1.cell 0) (fun w => by kernel_rfl)) hS0.out ?_
        simp only [pt_lit, List.set_cons_succ, List.set_cons_zero]
        refine tk (i := 1) 28 (v := .int .i64 (k : Nat)) rfl rfl (by kernel_rfl) (by kernel_rfl) (by kernel_rfl) (fun _ _ _ h => h) (by kernel_rfl) (fun wx _ => by kernel_rfl) hS0.out ?_
        simp only [pt_lit, List.set_cons_succ, List.set_cons_zero]
        refine tk (i := 2) 29 (v := .int .i64 (k : Nat)) rfl rfl (by kernel_rfl) (by kernel_rfl) (by kernel_rfl) (fun _ _ _ h => h) (by kernel_rfl) (fun wx _ => by kernel_rfl) hS0.out ?_
        simp only [pt_lit, List.set_cons_succ, List.set_cons_zero]
        refine tk (i := 3) 30 (v := .pointer (some ⟨g6, 1, none⟩)) rfl rfl (by kernel_rfl) (by kernel_rfl) (by kernel_rfl) (fun _ _ _ h => h) (by kernel_rfl) (fun wx _ => by kernel_rfl) hS0.out ?_
        simp only [pt_lit, List.set_cons_succ, List.set_cons_zero]
        refine tk (i := 4) 31 (v := .pointer (some ⟨g6, 1 + k, none⟩)) rfl rfl (by kernel_rfl) (by kernel_rfl) (by kernel_rfl) (fun _ _ _ h => h) (by kernel_rfl) (fun wx _ => ex_idx48 rfl wx g6 k rfl rfl (by omega)) hS0.out ?_
        simp only [pt_lit, List.set_cons_succ, List.set_cons_zero]
        refine tk (i := 5) 32 (v := .int .i64 (nx : Nat)) rfl rfl (by kernel_rfl) (by kernel_rfl) (by kernel_rfl) (fun _ _ _ h => h) (by kernel_rfl) (fun wx h => ex_load1 rfl wx ⟨g6, 1 + k, none⟩ _ rfl ((by rw [Nat.add_comm, ← HNX.out]; exact TnN.cellS h.1 k (by rw [HK.out.len]; omega))) (fun w => by kernel_rfl)) hS0.out ?_
        simp only [pt_lit, List.set_cons_succ, List.set_cons_zero]
        refine rc (i := 6) 33 (f := 20) (args := #[.int .i64 (nx : Nat)]) (by kernel_rfl) rfl rfl (by kernel_rfl) (by kernel_rfl) ?_
        refine (HM.out _).mono ?_
        rintro e w3 ⟨v3, rfl, hr3, hb3⟩
        obtain ⟨A3, c3, rfl, hl3, hC3⟩ := Kd.R_reads hr3
        have hS3 : Aside0 (TnN w3 g6 m o ∧ Blk w3 g8 23 #[.slice (some ⟨gm, 0, none⟩) m m] ∧ Below w.heap.size w w3) := ⟨Blk.later hS0.out.1 hb3, hS0.out.2.1.later hb3, below_then hS0.out.2.2 hS0.out.2.2.size hb3⟩
        have hM3 := Aside0.mk (Blk.later (Blk.drew HMM.out) hb3)
        have hN3 := Aside0.mk (Blk.later (Blk.drew HN.out) hb3)
        refine ⟨_, rfl, hS3.out, ?_⟩
        rw [hlm]
        clear hr3 hb3 hC3 hl3
        simp only [pt_lit, List.set_cons_succ, List.set_cons_zero]
        refine tk (i := 7) 34 (v := .int .i64 (M.length : Nat)) rfl rfl (by kernel_rfl) (by kernel_rfl) (by kernel_rfl) (fun _ _ _ h => h) (by kernel_rfl) (fun wx _ => by kernel_rfl) hS3.out ?_
        simp only [pt_lit, List.set_cons_succ, List.set_cons_zero]
        refine tk (i := 8) 35 (v := .pointer (some ⟨gm, k, none⟩)) rfl rfl (by kernel_rfl) (by kernel_rfl) (by kernel_rfl) (fun _ _ _ h => h) (by kernel_rfl) (fun wx _ => ex_idx25 rfl wx gm k m m rfl rfl (by omega)) hS3.out ?_
        simp only [pt_lit, List.set_cons_succ, List.set_cons_zero]
        refine rs (i := 9) (w' := w3.setCell ⟨gm, k, none⟩ (.int .i64 (M.length : Nat))) (by kernel_rfl) rfl rfl (by kernel_rfl) (ex_store1 rfl w3 ⟨gm, k, none⟩ _ _ rfl rfl ((hM3.out.cell k).trans (numsA_get _ k (by rw [fillTo_len _ _ (by rw [mosts_len]; omega), mosts_len]; omega))) (hM3.out.frozen k)) ⟨hS3.out.1.far HD.out.1 _, hS3.out.2.1.far HD.out.2.1 _, hS3.out.2.2.grown (gb_set _ _ _) hS3.out.2.2.size (fun g h => by cases h; exact HD.out.2.2.2)⟩ ?_
        skip
        refine wpAnyH_done (by kernel_rfl) ?_ _
        have hB5 : Aside0 (Below w.heap.size w (w3.setCell ⟨gm, k, none⟩ (.int .i64 (M.length : Nat)))) := ⟨hS3.out.2.2.grown (gb_set _ _ _) hS3.out.2.2.size (fun g h => by cases h; exact HD.out.2.2.2)⟩
        have hT5 : Aside0 (TnN (w3.setCell ⟨gm, k, none⟩ (.int .i64 (M.length : Nat))) g6 m o) := ⟨hS3.out.1.far HD.out.1 _⟩
        have hV5 : Aside0 (Blk (w3.setCell ⟨gm, k, none⟩ (.int .i64 (M.length : Nat))) g8 23 #[.slice (some ⟨gm, 0, none⟩) m m]) := ⟨hS3.out.2.1.far HD.out.2.1 _⟩
        have hN5 : Aside0 (Blk (w3.setCell ⟨gm, k, none⟩ (.int .i64 (M.length : Nat))) w.heap.size 3 #[.int .i64 (m : Nat)]) := ⟨hN3.out.far HD.out.2.2.1 _⟩
        have hM5 : Aside0 (Blk (w3.setCell ⟨gm, k, none⟩ (.int .i64 (M.length : Nat))) gm 3 (numsA (fillTo (mosts m o) (k + 1)))) := ⟨by
          have h5 := Blk.set_ hM3.out k (.int .i64 (M.length : Nat))
          rw [numsA_set] at h5
          have h6 := fillTo_set (mosts m o) k (by rw [mosts_len]; omega)
          rw [mosts_get m o k (by omega), HNX.out, HMl.out] at h6
          rw [h6] at h5
          exact h5⟩
        generalize w3.setCell ⟨gm, k, none⟩ (.int .i64 (M.length : Nat)) = w5 at *
        clear hS3 hM3 hN3 hS0 HMM HN
        go_wp2_with fail
        go_roundw
        case rel => exact ⟨k + 1, by omega, by go_num, hB5, hT5, hV5, hN5, hM5⟩
        case measure => simp [intOf]; omega
      · obtain rfl : k = m := by omega
        have hfa : fillTo (mosts k o) k = mosts k o := by have := fillTo_all (mosts k o); rwa [mosts_len] at this
        have hM1 := HMM.out
        rw [hfa] at hM1
        have hb9 : Below wr.heap.size wr (wr.alloc (.cells #[.func (.func 34) #[] #[.pointer (some ⟨w.heap.size, 0, none⟩), .pointer (some ⟨g6, 0, none⟩), .pointer (some ⟨g8, 0, none⟩), .pointer (some ⟨wr.heap.size, 0, none⟩)]] 67)) := below_alloc (Below.refl _ _) _
        have hC9 := C_nums (hM1.later hb9) (by rw [mosts_len]; omega)
        rw [mosts_len] at hC9
        have hRB : RankB (wr.alloc (.cells #[.func (.func 34) #[] #[.pointer (some ⟨w.heap.size, 0, none⟩), .pointer (some ⟨g6, 0, none⟩), .pointer (some ⟨g8, 0, none⟩), .pointer (some ⟨wr.heap.size, 0, none⟩)]] 67)) w.heap.size g6 g8 gm wr.heap.size k o :=
          ⟨HN.out.later hb9, Blk.later HTr.out hb9, HVr.out.later hb9, hC9, Blk.new _ _ _⟩
        have hI := rank1_any w.heap.size g6 g8 gm wr.heap.size k o HK.out k [] none 0 _ (by simp) (fun x hx => by cases hx) hRB (C_nil _) (fun _ => rfl) (by simp)
        rw [HR.out] at hI
        have HI := Aside0.mk hI
        have HB9 := Aside0.mk (below_then HBr.out HBr.out.size hb9)
        clear hI hRB hC9 hb9 hM1 hfa
        go_wp2_with fail
        refine HI.out.mono ?_
        cases R with
        | none =>
          rintro e w6 ⟨rfl, hb6⟩
          have HB6 := Aside0.mk (below_then HB9.out HB9.out.size hb6)
          clear hb6
          go_wp2_with fail
          go_ret2
          exact ⟨rfl, HB6.out⟩
        | some res =>
          rintro e w6 ⟨A6, c6, rfl, hl6, hC6, hb6⟩
          have HB6 := Aside0.mk (below_then HB9.out HB9.out.size hb6)
          have HC6 := Aside0.mk hC6
          have HL6 := Aside0.mk hl6
          clear hb6 hC6 hl6
          go_wp2_with fail
          go_ret2
          exact ⟨A6, c6, rfl, HL6.out, HC6.out, HB6.out⟩
  · have hK : RanksPost n l w = fun e w' => e = .returned (.tuple #[.slice none 0 0, .int .i64 (ofE n l)]) ∧ Below w.heap.size w w' := by funext e w'; simp [RanksPost, he]
    rw [hK]
    have hb : (ofE n l != 0) = true := bne_iff_ne.2 he
    have hb' : (ofE n l == 0) = false := beq_eq_false_iff_ne.2 he
    clear hK he
    generalize ofE n l = er at *
    go_enter Tryd.func17, Tryd.ntmps17
    go_wp2_with fail
    refine (HO.out _ HC0.out).mono ?_
    rintro e w1 ⟨rfl, hb⟩
    have HB := Aside0.mk (below_then HB0.out HB0.out.size hb)
    clear hb HO
    go_wp2_with (refine wpList_store_row rfl 47 _ _ rfl w1.heap.size (ofA n l) rfl rfl 47 (tnN 0 zero12) (heap_alloc_new w1 _) (by rw [info50, HZ.out]) (by rw [HZ.out]; rfl) H1.out ?_)
    go_ret2
    exact ⟨rfl, by rw [World.setRow_alloc_new]; exact below_alloc HB.out _⟩
end Go.Proofs.YtmobefgnkiboaaaDoor.Sh

