/- A list as a set; Is. slices.Contains at ints. The search for an odd cycle. Odd. -/
import Derived.Test.YtmobefgnkiboaaaMd
import Derived.Test.YtmobefgnkiboaaaMb
import Derived.WalkSpells
namespace Go.Proofs.Ytmobefgnkiboaaa.Im
open Go.RowKit Go.Proofs.YtmobefgnkiboaaaW.PrintWords Go.Proofs.YtmobefgnkiboaaaW.PrintLast Go.Proofs.YtmobefgnkiboaaaW.PrintMore
set_option linter.unusedVariables false

/-- The j-th number of a list is a person, and above the one before. -/
def ascAt (n : Nat) (l : List Int) (j : Nat) : Prop := 0 ≤ rd l j ∧ rd l j < n ∧ (0 < j → rd l ((j : Int) - 1) < rd l j)
def AscTo (n : Nat) (l : List Int) (k : Nat) : Prop := ∀ j, j < k → ascAt n l j
instance (n : Nat) (l : List Int) (j : Nat) : Decidable (ascAt n l j) := by unfold ascAt; infer_instance
instance (n : Nat) (l : List Int) (k : Nat) : Decidable (AscTo n l k) := by unfold AscTo; infer_instance
def setOf (l : List Int) : Nat := l.foldl (fun s x => s ||| 2 ^ x.toNat) 0
theorem setOf_snoc (l : List Int) (k : Nat) (h : k < l.length) : setOf (l.take (k + 1)) = setOf (l.take k) ||| 2 ^ (rd l k).toNat := by
  rw [List.take_succ_eq_append_getElem h]
  unfold setOf
  rw [List.foldl_append]
  simp [rd, h]
theorem setOf_lt (n : Nat) (l : List Int) : ∀ k, k ≤ l.length → AscTo n l k → setOf (l.take k) < 2 ^ n := by
  intro k
  induction k with
  | zero => intro _ _; simp [setOf]; exact Nat.two_pow_pos n
  | succ k ih =>
    intro hk h
    rw [setOf_snoc l k (by omega)]
    have h1 := ih (by omega) (fun j hj => h j (by omega))
    have h2 := h k (by omega)
    exact Nat.or_lt_two_pow h1 (Nat.pow_lt_pow_right (by decide) (by have := h2.1; have := h2.2.1; omega))
def listedV (n : Nat) (l : List Int) : Value := if AscTo n l l.length then .tuple #[.int .i64 (setOf l : Nat), .bool true] else .tuple #[.int .i64 0, .bool false]
theorem AscTo.succ {n : Nat} {l : List Int} {k : Nat} (h : AscTo n l k) (h1 : ascAt n l k) : AscTo n l (k + 1) := fun j hj => by
  rcases Nat.lt_or_ge j k with hlt | hge
  · exact h j hlt
  · obtain rfl : j = k := by omega
    exact h1
theorem listed_no {n : Nat} {l : List Int} {k : Nat} (hk : k < l.length) (h : ¬ ascAt n l k) : listedV n l = .tuple #[.int .i64 0, .bool false] := by
  rw [listedV, if_neg (fun h' => h (h' k hk))]

set_option maxHeartbeats 1600000 in
set_option maxRecDepth 100000 in
theorem listed_any (n : Nat) (o : List Nat) (A : Option Addr) (c : Nat) (l : List Int) (w : World) (ok : Okt n o) (hr : Kd.C (Kd.int .i64) w A l.length l) (hc : l.length ≤ c) (hl : l.length < 4611686018427387904) :
    Calls Try.prog 70 #[.agg (tnN n o), .slice A l.length c] w fun e w' => e = .returned (listedV n l) ∧ Below w.heap.size w w' := by
  have HR := Aside0.mk hr
  have HK := Aside0.mk ok
  have n12 := ok.n12
  have c0 : (w.alloc (.cells (tnN n o) 50)).cell? ⟨w.heap.size, 0, none⟩ = some (.int .i64 n) := (Blk.new w 50 (tnN n o)).cell 0
  have C0 := Aside0.mk c0
  clear hr ok c0
  go_enter Try.func70, Try.ntmps70
  go_wp2_with fail
  go_loopw [6, 11] (fun v6 v wr => ∃ k : Nat, k ≤ l.length ∧ v = .int .i64 (k : Int) ∧ v6 = .int .i64 (setOf (l.take k) : Nat) ∧ Aside0 (AscTo n l k) ∧ wr = w.alloc (.cells (tnN n o) 50)) (fun _ v _ => l.length - (intOf v).toNat)
  case atStart => exact ⟨0, Nat.zero_le _, rfl, rfl, ⟨fun j hj => absurd hj (by omega)⟩, rfl⟩
  case round =>
    obtain ⟨k, hk, rfl, rfl, HA, rfl⟩ := hrel
    have c0 := C0.out
    by_cases hkl : k < l.length
    · obtain ⟨ad, rfl, cx⟩ := Kd.at_int HR.out (k : Int) (by omega) (by omega)
      have hlt := World.block_lt_of_cell? w _ cx
      replace cx := (World.cell?_alloc_lt w (.cells (tnN n o) 50) _ hlt).trans cx
      simp only [Int.toNat_natCast] at cx
      have hprev : 0 < k → (w.alloc (.cells (tnN n o) 50)).cell? (ad.add (k - 1)) = some (.int .i64 (rd l ((k : Int) - 1))) := fun hk0 => by
        obtain ⟨ad', e', cy⟩ := Kd.at_int HR.out ((k : Int) - 1) (by omega) (by omega)
        cases e'
        have h2 := World.block_lt_of_cell? w _ cy
        have := (World.cell?_alloc_lt w (.cells (tnN n o) 50) _ h2).trans cy
        rwa [show ((k : Int) - 1).toNat = k - 1 by omega] at this
      obtain ⟨x, hx⟩ : ∃ x, rd l (k : Int) = x := ⟨_, rfl⟩
      rw [hx] at cx
      have HX := Aside0.mk hx
      clear hx
      by_cases a1 : x < 0
      · have HF := Aside0.mk (listed_no hkl (show ¬ ascAt n l k by intro h; have := h.1; rw [HX.out] at this; omega))
        clear hprev
        go_wp2_with fail
        go_ret2
        exact ⟨by rw [HF.out]; rfl, below_alloc (Below.refl _ _) _⟩
      · by_cases a2 : (n : Int) ≤ x
        · have HF := Aside0.mk (listed_no hkl (show ¬ ascAt n l k by intro h; have := h.2.1; rw [HX.out] at this; omega))
          clear hprev
          go_wp2_with fail
          go_ret2
          exact ⟨by rw [HF.out]; rfl, below_alloc (Below.refl _ _) _⟩
        · obtain ⟨x, rfl⟩ : ∃ y : Nat, x = y := ⟨x.toNat, by omega⟩
          have hs := setOf_snoc l k hkl
          have hb := setOf_lt n l k hk HA.out
          have hx62 : 2 ^ x < 2 ^ 62 := Nat.pow_lt_pow_right (by decide) (by omega)
          have hs2 : ((setOf (l.take (k + 1)) : Nat) : Int) = bits .or .i64 (setOf (l.take k) : Nat) (wrap64 (2 ^ x)) := by
            rw [wr_pow x (by omega), b_or _ _ (lt62_of n12 hb) hx62, hs, HX.out, Int.toNat_natCast]
          have HS := Aside0.mk hs2
          clear hs hb hs2 hx62
          by_cases a3 : k = 0
          · subst a3
            have cx0 : (w.alloc (.cells (tnN n o) 50)).cell? ad = some (.int .i64 (x : Nat)) := by simpa [Addr.add] using cx
            clear cx
            have HA1 := Aside0.mk (HA.out.succ ⟨by rw [HX.out]; omega, by rw [HX.out]; omega, fun h => absurd h (by omega)⟩)
            clear hprev
            generalize setOf (List.take 0 l) = s0 at *
            go_wp2_with fail
            go_roundw
            case rel => exact ⟨1, by omega, by go_num, by rw [HS.out], HA1, trivial⟩
            case measure => simp [intOf]; omega
          · have cp := hprev (by omega)
            clear hprev
            have k0 : (0 : Int) < k := by omega
            obtain ⟨y, hy⟩ : ∃ y, rd l ((k : Int) - 1) = y := ⟨_, rfl⟩
            rw [hy] at cp
            have HY := Aside0.mk hy
            clear hy
            have k1 : ((k : Int) - 1).toNat = k - 1 := by omega
            by_cases a4 : (x : Int) ≤ y
            · have HF := Aside0.mk (listed_no hkl (show ¬ ascAt n l k by intro h; have := h.2.2 (by omega); rw [HX.out, HY.out] at this; omega))
              go_wp2_with fail
              go_ret2
              exact ⟨by rw [HF.out]; rfl, below_alloc (Below.refl _ _) _⟩
            · have HA1 := Aside0.mk (HA.out.succ ⟨by rw [HX.out]; omega, by rw [HX.out]; omega, fun h => by rw [HX.out, HY.out]; omega⟩)
              generalize setOf (List.take k l) = s0 at *
              go_wp2_with fail
              go_roundw
              case rel => exact ⟨k + 1, by omega, by go_num, by rw [HS.out], HA1, trivial⟩
              case measure => simp [intOf]; omega
    · obtain rfl : k = l.length := by omega
      have HF := Aside0.mk (show listedV n l = .tuple #[.int .i64 (setOf l : Nat), .bool true] from if_pos HA.out)
      have htk : setOf (l.take l.length) = setOf l := by rw [List.take_length]
      rw [htk]
      clear htk
      go_wp2_with fail
      go_ret2
      exact ⟨by rw [HF.out]; rfl, below_alloc (Below.refl _ _) _⟩
def isB (n : Nat) (o : List Nat) (l : List Int) : Bool := decide (AscTo n l l.length) && kerB n o (setOf l) (2 ^ n - 1)
def IsPost (n : Int) (l : List S43) (s : List Int) (w : World) (e : Ending) (w' : World) : Prop :=
  e = .returned (.tuple #[.bool (if ofE n l = 0 then isB n.toNat (townO l) s else false), .int .i64 (ofE n l)]) ∧ Below w.heap.size w w'

set_option maxHeartbeats 3200000 in
set_option maxRecDepth 100000 in
theorem Is_any (n : Int) (A : Option Addr) (c : Nat) (l : List S43) (B : Option Addr) (d : Nat) (s : List Int) (w : World) (hr : Kd.C k43 w A l.length l) (hc : l.length ≤ c)
    (hr2 : Kd.C (Kd.int .i64) w B s.length s) (hd : s.length ≤ d) (hs : s.length < 4611686018427387904) :
    Calls Try.prog 32 #[.int .i64 n, .slice A l.length c, .slice B s.length d] w (IsPost n l s w) := by
  have HO := Aside0.mk (of_A n A c l w hr hc)
  have HZ := Aside0.mk (ofA_size n l)
  have H1 := Aside0.mk (ofA_one n l)
  have HR2 := Aside0.mk hr2
  clear hr hc hr2
  by_cases he : ofE n l = 0
  · have ok := okt_of he
    have hA : ofA n l = tnN n.toNat (townO l) := by rw [ofA, if_pos he]
    have hK : IsPost n l s w = fun e w' => e = .returned (.tuple #[.bool (isB n.toNat (townO l) s), .int .i64 0]) ∧ Below w.heap.size w w' := by funext e w'; simp [IsPost, he]
    rw [hK]
    rw [hA] at HO HZ H1
    rw [he] at HO
    clear he hA hK
    generalize townO l = o at *
    generalize n.toNat = m at *
    have HK := Aside0.mk ok
    have n12 := ok.n12
    have hpn := pow12_lt m n12
    clear ok
    by_cases ha : AscTo m s s.length
    · have hS := Nat.lt_of_lt_of_le (by have := setOf_lt m s s.length (Nat.le_refl _) ha; rwa [List.take_length] at this) (Nat.pow_le_pow_right (by decide) n12 : 2 ^ m ≤ 2 ^ 12)
      have hB : isB m o s = kerB m o (setOf s) (2 ^ m - 1) := by simp [isB, ha]
      have hL : listedV m s = .tuple #[.int .i64 (setOf s : Nat), .bool true] := if_pos ha
      rw [hB]
      have HLt := Aside0.mk (fun w' h => hL ▸ listed_any m o B d s w' HK.out h hd hs)
      clear hB hL ha
      generalize setOf s = S at *
      obtain ⟨b, hb⟩ : ∃ b, kerB m o S (2 ^ m - 1) = b := ⟨_, rfl⟩
      rw [hb]
      have HQ := Aside0.mk hb
      have HEv := Aside0.mk (fun w => everybody_any m o w n12)
      clear hb
      go_enter Try.func32, Try.ntmps32
      go_wp2_with fail
      refine HO.out.mono ?_
      rintro e w1 ⟨rfl, hb⟩
      have HB := Aside0.mk hb
      clear hb HO
      have HT : Aside0 (TnN (w1.alloc (.cells (tnN m o) 50)) w1.heap.size m o) := ⟨Blk.new _ _ _⟩
      have HB1 := Aside0.mk (below_alloc HB.out (.cells (tnN m o) 50))
      go_wp2_with (first | (refine wpList_store_row rfl 50 _ _ rfl w1.heap.size (tnN m o) rfl rfl 50 (tnN 0 zero12) (heap_alloc_new w1 _) (by rw [info50, HZ.out]) (by rw [HZ.out]; rfl) H1.out ?_; rw [World.setRow_alloc_new]) | (refine wpList_load_row rfl 50 _ rfl w1.heap.size rfl 50 (tnN m o) (0, 0) _ HT.out Try.underlying50 rfl (by rw [info50, HZ.out]) ?_))
      refine (HLt.out _ (Kd.C_below HR2.out (HB1.out))).mono ?_
      rintro e w2 ⟨rfl, hb2⟩
      have HB2 := Aside0.mk (below_then HB1.out HB1.out.size hb2)
      have HT2 := Aside0.mk (Blk.later HT.out hb2)
      clear hb2
      go_wp2_with fail
      refine wp_region_held (S := fun wx => TnN wx w1.heap.size m o ∧ Below w.heap.size w wx) (by kernel_rfl) ?_
      have hT := Aside0.mk (Blk.drew HT2.out)
      have hb0 := Aside0.mk (below_drew HB2.out)
      refine tk (i := 0) 27 (v := .bool true) rfl rfl (by kernel_rfl) (by kernel_rfl) (by kernel_rfl) (fun _ _ _ h => h) (by kernel_rfl) (fun wx _ => by kernel_rfl) ⟨hT.out, hb0.out⟩ ?_
      simp only [pt_lit, List.set_cons_succ, List.set_cons_zero]
      refine tk (i := 1) 28 (v := .bool true) rfl rfl (by kernel_rfl) (by kernel_rfl) (by kernel_rfl) (fun _ _ _ h => h) (by kernel_rfl) (fun wx _ => by kernel_rfl) ⟨hT.out, hb0.out⟩ ?_
      simp only [pt_lit, List.set_cons_succ, List.set_cons_zero]
      refine tk (i := 2) 29 rfl rfl (by kernel_rfl) (by kernel_rfl) (by kernel_rfl) (fun _ _ _ h => h) (by kernel_rfl) (ld_tn _ rfl w1.heap.size m o rfl HK.out.len (fun _ h => h.1)) ⟨hT.out, hb0.out⟩ ?_
      simp only [pt_lit, List.set_cons_succ, List.set_cons_zero]
      refine tk (i := 3) 30 (v := .int .i64 (S : Nat)) rfl rfl (by kernel_rfl) (by kernel_rfl) (by kernel_rfl) (fun _ _ _ h => h) (by kernel_rfl) (fun wx _ => by kernel_rfl) ⟨hT.out, hb0.out⟩ ?_
      simp only [pt_lit, List.set_cons_succ, List.set_cons_zero]
      refine tk (i := 4) 31 rfl rfl (by kernel_rfl) (by kernel_rfl) (by kernel_rfl) (fun _ _ _ h => h) (by kernel_rfl) (ld_tn _ rfl w1.heap.size m o rfl HK.out.len (fun _ h => h.1)) ⟨hT.out, hb0.out⟩ ?_
      simp only [pt_lit, List.set_cons_succ, List.set_cons_zero]
      refine rc (i := 5) 32 (f := 57) (args := #[.agg (tnN m o)]) (by kernel_rfl) rfl rfl (by kernel_rfl) (by kernel_rfl) ?_
      refine (HEv.out _).mono ?_
      rintro e w3 ⟨rfl, hb3⟩
      have hb03 := below_then hb0.out hb0.out.size hb3
      refine ⟨_, rfl, ⟨Blk.later hT.out hb3, hb03⟩, ?_⟩
      simp only [pt_lit, List.set_cons_succ, List.set_cons_zero]
      refine rc (i := 6) 33 (f := 56) (args := #[.agg (tnN m o), .int .i64 (S : Nat), .int .i64 (2 ^ m - 1 : Nat)]) (by kernel_rfl) rfl rfl (by kernel_rfl) (by kernel_rfl) ?_
      refine (kernel_b HQ.out _ HK.out (by omega) (by omega)).mono ?_
      rintro e w4 ⟨rfl, hb4⟩
      have HB4 := Aside0.mk (below_then hb03 hb03.size hb4)
      have HT4 := Aside0.mk (Blk.later (Blk.later hT.out hb3) hb4)
      refine ⟨_, rfl, ⟨HT4.out, HB4.out⟩, ?_⟩
      clear hb4 hb03 hb3 hT hb0
      simp only [pt_lit, List.set_cons_succ, List.set_cons_zero]
      refine tk (i := 7) 34 (v := .bool b) rfl rfl (by kernel_rfl) (by kernel_rfl) (by kernel_rfl) (fun _ _ _ h => h) (by kernel_rfl) (fun wx _ => by kernel_rfl) ⟨HT4.out, HB4.out⟩ ?_
      simp only [pt_lit, List.set_cons_succ, List.set_cons_zero]
      refine rv (i := 8) 6 (v := .bool b) (w' := w4) (by kernel_rfl) rfl rfl (by kernel_rfl) (by kernel_rfl) ⟨HT4.out, HB4.out⟩ ?_
      simp only [pt_lit, List.set_cons_succ, List.set_cons_zero]
      refine rv (i := 9) 7 (v := .int .i64 0) (w' := w4) (by kernel_rfl) rfl rfl (by kernel_rfl) (by kernel_rfl) ⟨HT4.out, HB4.out⟩ ?_
      simp only [pt_lit, List.set_cons_succ, List.set_cons_zero]
      refine wpAnyH_done (by kernel_rfl) ?_ _
      go_wp2_with fail
      go_ret2
      exact ⟨rfl, HB4.out⟩
    · have hB : isB m o s = false := by simp [isB, ha]
      have hL : listedV m s = .tuple #[.int .i64 0, .bool false] := if_neg ha
      rw [hB]
      have HLt := Aside0.mk (fun w' h => hL ▸ listed_any m o B d s w' HK.out h hd hs)
      clear hB hL ha
      go_enter Try.func32, Try.ntmps32
      go_wp2_with fail
      refine HO.out.mono ?_
      rintro e w1 ⟨rfl, hb⟩
      have HB := Aside0.mk hb
      clear hb HO
      have HT : Aside0 (TnN (w1.alloc (.cells (tnN m o) 50)) w1.heap.size m o) := ⟨Blk.new _ _ _⟩
      have HB1 := Aside0.mk (below_alloc HB.out (.cells (tnN m o) 50))
      go_wp2_with (first | (refine wpList_store_row rfl 50 _ _ rfl w1.heap.size (tnN m o) rfl rfl 50 (tnN 0 zero12) (heap_alloc_new w1 _) (by rw [info50, HZ.out]) (by rw [HZ.out]; rfl) H1.out ?_; rw [World.setRow_alloc_new]) | (refine wpList_load_row rfl 50 _ rfl w1.heap.size rfl 50 (tnN m o) (0, 0) _ HT.out Try.underlying50 rfl (by rw [info50, HZ.out]) ?_))
      refine (HLt.out _ (Kd.C_below HR2.out (HB1.out))).mono ?_
      rintro e w2 ⟨rfl, hb2⟩
      have HB2 := Aside0.mk (below_then HB1.out HB1.out.size hb2)
      clear hb2
      go_wp2_with fail
      go_quiet (fail)
      go_wp2_with fail
      go_ret2
      exact ⟨rfl, pw_below_drewN HB2.out _⟩
  · have hK : IsPost n l s w = fun e w' => e = .returned (.tuple #[.bool false, .int .i64 (ofE n l)]) ∧ Below w.heap.size w w' := by funext e w'; simp [IsPost, he]
    rw [hK]
    have hb : (ofE n l != 0) = true := bne_iff_ne.2 he
    have hb' : (ofE n l == 0) = false := beq_eq_false_iff_ne.2 he
    clear hK he
    generalize ofE n l = er at *
    go_enter Try.func32, Try.ntmps32
    go_wp2_with fail
    refine HO.out.mono ?_
    rintro e w1 ⟨rfl, hb⟩
    have HB := Aside0.mk hb
    clear hb HO
    go_wp2_with (refine wpList_store_row rfl 50 _ _ rfl w1.heap.size (ofA n l) rfl rfl 50 (tnN 0 zero12) (heap_alloc_new w1 _) (by rw [info50, HZ.out]) (by rw [HZ.out]; rfl) H1.out ?_)
    go_ret2
    exact ⟨rfl, by rw [World.setRow_alloc_new]; exact below_alloc HB.out _⟩
end Go.Proofs.Ytmobefgnkiboaaa.Im

namespace Go.Proofs.Ytmobefgnkiboaaa.Im
open Go.RowKit Go.Proofs.YtmobefgnkiboaaaW.PrintWords Go.Proofs.YtmobefgnkiboaaaW.PrintLast Go.Proofs.YtmobefgnkiboaaaW.PrintMore
set_option linter.unusedVariables false

def NotIn (l : List Int) (x : Int) (k : Nat) : Prop := ∀ j, j < k → rd l j ≠ x
def hasI (l : List Int) (x : Int) : Bool := l.contains x
theorem hasI_no {l : List Int} {x : Int} (h : NotIn l x l.length) : hasI l x = false := by
  unfold hasI
  rw [← Bool.not_eq_true]
  intro hc
  obtain ⟨i, hi, he⟩ := List.getElem_of_mem (List.contains_iff_mem.1 hc)
  exact h i hi (by simp [rd, hi, he])
theorem hasI_yes {l : List Int} {x : Int} {k : Nat} (hk : k < l.length) (h : rd l k = x) : hasI l x = true := by
  unfold hasI
  rw [List.contains_iff_mem]
  rw [← h]
  simp [rd, hk]
def IdxPost (l : List Int) (x : Int) (w : World) (e : Ending) (w' : World) : Prop :=
  ∃ r : Int, e = .returned (.int .i64 r) ∧ (decide (r ≥ 0) = hasI l x) ∧ w = w'
set_option maxHeartbeats 1600000 in
theorem index_any (A : Option Addr) (c : Nat) (l : List Int) (x : Int) (w : World) (hr : Kd.C (Kd.int .i64) w A l.length l) (hc : l.length ≤ c) (hl : l.length < 4611686018427387904) :
    Calls Try.prog 89 #[.slice A l.length c, .int .i64 x] w (IdxPost l x w) := by
  have HR := Aside0.mk hr
  clear hr
  go_enter Try.func89, Try.ntmps89
  go_wp2_with fail
  go_loop [8] (fun v => ∃ k : Nat, k ≤ l.length ∧ v = .int .i64 (k : Int) ∧ Aside0 (NotIn l x k)) (fun v => l.length - (intOf v).toNat)
  case atStart => exact ⟨0, Nat.zero_le _, rfl, ⟨fun j hj => absurd hj (by omega)⟩⟩
  case round =>
    obtain ⟨k, hk, rfl, HN⟩ := hrel
    by_cases hkl : k < l.length
    · obtain ⟨ad, rfl, cx⟩ := Kd.at_int HR.out (k : Int) (by omega) (by omega)
      simp only [Int.toNat_natCast] at cx
      obtain ⟨y, hy⟩ : ∃ y, rd l (k : Int) = y := ⟨_, rfl⟩
      rw [hy] at cx
      by_cases he : x = y
      · have HF := Aside0.mk (hasI_yes hkl (hy.trans he.symm))
        have hb : (x == y) = true := beq_iff_eq.2 he
        clear he hy
        go_wp2_with fail
        go_ret
        exact ⟨k, rfl, by rw [HF.out]; simp, rfl⟩
      · have HN1 : Aside0 (NotIn l x (k + 1)) := ⟨fun j hj => by
          rcases Nat.lt_or_ge j k with hlt | hge
          · exact HN.out j hlt
          · obtain rfl : j = k := by omega
            rw [hy]; exact fun e => he e.symm⟩
        have hb : (x == y) = false := beq_eq_false_iff_ne.2 he
        clear he hy
        go_wp2_with fail
        go_round
        case rel => exact ⟨k + 1, by omega, by go_num, HN1⟩
        case measure => simp [intOf]; omega
    · obtain rfl : k = l.length := by omega
      have HF := Aside0.mk (hasI_no HN.out)
      go_wp2_with fail
      go_ret
      exact ⟨-1, rfl, by rw [HF.out]; rfl, rfl⟩
theorem contains_any (A : Option Addr) (c : Nat) (l : List Int) (x : Int) (w : World) (hr : Kd.C (Kd.int .i64) w A l.length l) (hc : l.length ≤ c) (hl : l.length < 4611686018427387904) :
    Calls Try.prog 66 #[.slice A l.length c, .int .i64 x] w fun e w' => e = .returned (.bool (hasI l x)) ∧ w = w' := by
  have HI := Aside0.mk (index_any A c l x w hr hc hl)
  clear hr
  go_enter Try.func66, Try.ntmps66
  go_wp2_with fail
  refine HI.out.mono ?_
  rintro e w' ⟨r, rfl, hr, rfl⟩
  have HR := Aside0.mk hr
  clear hr
  go_wp2_with fail
  go_ret
  exact ⟨by rw [← HR.out]; rfl, rfl⟩
end Go.Proofs.Ytmobefgnkiboaaa.Im

namespace Go.Proofs.Ytmobefgnkiboaaa.Im
open Go.RowKit Go.Proofs.YtmobefgnkiboaaaW.PrintWords Go.Proofs.YtmobefgnkiboaaaW.PrintLast Go.Proofs.YtmobefgnkiboaaaW.PrintMore
set_option linter.unusedVariables false

/-- A way that goes on for so many people, and closes. -/
def oddF (o : List Nat) : Nat → List Nat → Option (List Nat)
  | 0, way => if (o.getD (way.getLastD 0) 0).testBit (way.headD 0) then some way else none
  | d + 1, way => (memL (o.getD (way.getLastD 0) 0)).findSome? fun j => if way.contains j then none else oddF o d (way ++ [j])
/-- What such a search hands back. -/
def FoundP (w : World) (r : Option (List Nat)) (e : Ending) (w' : World) : Prop :=
  match r with
  | some l => ∃ A c, e = .returned (.slice (some A) (ints l).length c) ∧ (ints l).length ≤ c ∧ Kd.C (Kd.int .i64) w' (some A) (ints l).length (ints l) ∧ Below w.heap.size w w'
  | none => e = .returned (.slice none 0 0) ∧ Below w.heap.size w w'
theorem memF_lt (p : Nat) : ∀ d i x, x ∈ memF p d i → x < d + i ∧ p.testBit x = true
  | 0, _, _, h => by simp [memF] at h
  | d + 1, i, x, h => by
    rw [memF] at h
    split at h
    · rename_i hb
      rcases List.mem_cons.1 h with rfl | h
      · exact ⟨by omega, hb⟩
      · obtain ⟨h1, h2⟩ := memF_lt p d (i + 1) x h
        exact ⟨by omega, h2⟩
    · obtain ⟨h1, h2⟩ := memF_lt p d (i + 1) x h
      exact ⟨by omega, h2⟩
theorem memL_lt {p x : Nat} (h : x ∈ memL p) : x < 12 := by
  have := (memF_lt p _ _ x h).1; omega
theorem memF_len (p : Nat) : ∀ d i, (memF p d i).length ≤ d
  | 0, _ => by simp [memF]
  | d + 1, i => by
    rw [memF]
    split
    · simp only [List.length_cons]; have := memF_len p d (i + 1); omega
    · have := memF_len p d (i + 1); omega
theorem memL_len (p : Nat) : (memL p).length ≤ 12 := memF_len p 12 0
theorem hasI_ints (l : List Nat) (j : Nat) : hasI (ints l) (j : Int) = l.contains j := by
  unfold hasI ints
  rw [Bool.eq_iff_iff, List.contains_iff_mem, List.contains_iff_mem, List.mem_map]
  constructor
  · rintro ⟨x, hx, he⟩
    have : x = j := by exact_mod_cast he
    rwa [← this]
  · exact fun h => ⟨j, h, rfl⟩
theorem ints_snoc (l : List Nat) (j : Nat) : ints (l ++ [j]) = ints l ++ [(j : Int)] := by simp [ints]
def noneTo (l : List Nat) (g : Nat → Option (List Nat)) (k : Nat) : Prop := (l.take k).findSome? g = none
theorem noneTo_zero (l : List Nat) (g : Nat → Option (List Nat)) : noneTo l g 0 := by simp [noneTo]
theorem noneTo_succ {l : List Nat} {g : Nat → Option (List Nat)} {k : Nat} (h : noneTo l g k) (hk : k < l.length) (h1 : g l[k] = none) : noneTo l g (k + 1) := by
  unfold noneTo at *
  rw [List.take_succ_eq_append_getElem hk, List.findSome?_append, h]
  simp [h1]
theorem noneTo_some {l : List Nat} {g : Nat → Option (List Nat)} {k : Nat} {r : List Nat} (h : noneTo l g k) (hk : k < l.length) (h1 : g l[k] = some r) : l.findSome? g = some r := by
  unfold noneTo at h
  have e : l = l.take k ++ l[k] :: l.drop (k + 1) := by simp
  have e2 : (l[k] :: l.drop (k + 1)).findSome? g = some r := by rw [List.findSome?_cons, h1]
  rw [e, List.findSome?_append, h, e2]
  rfl
theorem noneTo_all {l : List Nat} {g : Nat → Option (List Nat)} (h : noneTo l g l.length) : l.findSome? g = none := by
  unfold noneTo at h
  rwa [List.take_length] at h

/-- A load of one cell. -/
theorem ex_load1 {a : Act} {o : Oper} {t : TypeId} {x : Operand} (ho : o.op = .load t x) (w : World) (ad : Addr) (v : Value) (hx : a.eval x = .pointer (some ad)) (hc : w.cell? ad = some v) (ht : ∀ w, (isAgg t).run Try.prog w = .ok false w) :
    (execOp a.eval o).run Try.prog w = .ok (.value v) w := by
  have hl : (Instr.loadAt t (.pointer (some ad))).run Try.prog w = .ok v w := by simp [Instr.loadAt, Instr.sureAddr, loadVar, ht, Sem.run_bind, Result.andThen, go_sem, hc]
  unfold execOp
  simp [ho, hx, hl, Result.andThen]
/-- The three boxes of the search. -/
structure OddB (w : World) (gt gl go n long : Nat) (o : List Nat) : Prop where
  bt : TnN w gt n o
  bl : Blk w gl 3 #[.int .i64 (long : Nat)]
  bo : Blk w go 54 #[.func (.func 65) #[] #[.pointer (some ⟨gt, 0, none⟩), .pointer (some ⟨gl, 0, none⟩), .pointer (some ⟨go, 0, none⟩)]]
theorem OddB.later {w w' : World} {gt gl go n long : Nat} {o : List Nat} (h : OddB w gt gl go n long o) (hb : Below w.heap.size w w') : OddB w' gt gl go n long o :=
  ⟨Blk.later h.bt hb, h.bl.later hb, h.bo.later hb⟩

set_option maxHeartbeats 3200000 in
set_option maxRecDepth 100000 in
theorem odd1_any (gt gl go n long : Nat) (o : List Nat) (ok : Okt n o) (hlong : long ≤ 12) (d : Nat) :
    ∀ (way : List Nat) (A : Option Addr) (c : Nat) (w : World), way.length + d = long → 1 ≤ way.length → (∀ x ∈ way, x < 12) → OddB w gt gl go n long o →
      Kd.C (Kd.int .i64) w A (ints way).length (ints way) → (ints way).length ≤ c →
      Calls Try.prog 65 #[.slice A (ints way).length c, .pointer (some ⟨gt, 0, none⟩), .pointer (some ⟨gl, 0, none⟩), .pointer (some ⟨go, 0, none⟩)] w (FoundP w (oddF o d way)) := by
  induction d with
  | zero =>
    intro way A c w hl h1 hx hO hr hc
    have hlen : (ints way).length = way.length := ints_length way
    obtain ⟨ad, rfl⟩ := C_some hr (by omega)
    obtain ⟨_, e0, cl⟩ := Kd.at_int hr ((way.length : Int) - 1) (by omega) (by omega)
    cases e0
    obtain ⟨_, e0, cf⟩ := Kd.at_int hr 0 (by omega) (by omega)
    cases e0
    have hlast : rd (ints way) ((way.length : Int) - 1) = ((way.getLastD 0 : Nat) : Int) := by
      have : ((way.length : Int) - 1) = ((way.length - 1 : Nat) : Int) := by omega
      rw [this, rd_ints]
      congr 1
      rw [List.getD_eq_getElem?_getD, List.getLastD_eq_getLast?, List.getLast?_eq_getElem?]
    have hfirst : rd (ints way) 0 = ((way.headD 0 : Nat) : Int) := by
      have := rd_ints way 0
      rw [show ((0 : Nat) : Int) = 0 from rfl] at this
      rw [this]
      cases way <;> rfl
    rw [hlast, show ((way.length : Int) - 1).toNat = way.length - 1 by omega] at cl
    rw [hfirst] at cf
    have cf' : w.cell? ad = some (.int .i64 (way.headD 0 : Nat)) := by simpa [Addr.add] using cf
    have hla : way.getLastD 0 < 12 := by
      rw [List.getLastD_eq_getLast?]
      cases hg : way.getLast? with
      | none => simp
      | some x => exact hx x (List.mem_of_getLast? hg)
    have hfa : way.headD 0 < 12 := by
      cases way with
      | nil => simp
      | cons a l => exact hx a List.mem_cons_self
    have co := TnN.cellS hO.bt (way.getLastD 0) (by rw [ok.len]; omega)
    have hnx : o.getD (way.getLastD 0) 0 < 4096 := Nat.lt_of_lt_of_le (ok.lt _) (Nat.pow_le_pow_right (by decide) ok.n12 : 2 ^ n ≤ 2 ^ 12)
    have hF : oddF o 0 way = if (o.getD (way.getLastD 0) 0).testBit (way.headD 0) then some way else none := rfl
    rw [hF]
    clear hF cf hlast hfirst
    generalize way.getLastD 0 = la at *
    generalize way.headD 0 = fa at *
    generalize o.getD la 0 = nx at *
    have cg : w.cell? ⟨gl, 0, none⟩ = some (.int .i64 (long : Nat)) := hO.bl.cell 0
    rw [Nat.add_comm] at co
    have la0 : (0 : Int) ≤ la := by omega
    have la1 : (la : Int) < 12 := by omega
    have fa0 : (0 : Int) ≤ fa := by omega
    have wl0 : (0 : Int) ≤ (way.length : Int) - 1 := by omega
    have wl1 : ((way.length : Int) - 1).toNat = way.length - 1 := by omega
    have neq : ((way.length : Int) == (long : Int)) = true := beq_iff_eq.2 (by omega)
    have hb1 := b_bit1 nx fa (by omega)
    rw [hlen] at hr hc ⊢
    have HR := Aside0.mk hr
    clear hr hO hx
    cases hb : nx.testBit fa
    · rw [hb] at hb1
      rw [if_neg (by simp)]
      clear hb
      go_enter Try.func65, Try.ntmps65
      go_wp2_with fail
      go_ret
      exact ⟨rfl, Below.refl _ _⟩
    · rw [hb] at hb1
      rw [if_pos rfl]
      clear hb
      have HL := Aside0.mk hlen
      go_enter Try.func65, Try.ntmps65
      go_wp2_with fail
      go_ret
      exact ⟨ad, c, by rw [HL.out]; rfl, by rw [HL.out]; exact hc, by rw [HL.out]; exact HR.out, Below.refl _ _⟩
  | succ d ih =>
    intro way A c w hl h1 hx hO hr hc
    have IH := Aside0.mk ih
    clear ih
    have hlen : (ints way).length = way.length := ints_length way
    obtain ⟨ad, rfl⟩ := C_some hr (by omega)
    obtain ⟨_, e0, cl⟩ := Kd.at_int hr ((way.length : Int) - 1) (by omega) (by omega)
    cases e0
    have hlast : rd (ints way) ((way.length : Int) - 1) = ((way.getLastD 0 : Nat) : Int) := by
      have : ((way.length : Int) - 1) = ((way.length - 1 : Nat) : Int) := by omega
      rw [this, rd_ints]
      congr 1
      rw [List.getD_eq_getElem?_getD, List.getLastD_eq_getLast?, List.getLast?_eq_getElem?]
    rw [hlast, show ((way.length : Int) - 1).toNat = way.length - 1 by omega] at cl
    have hla : way.getLastD 0 < 12 := by
      rw [List.getLastD_eq_getLast?]
      cases hg : way.getLast? with
      | none => simp
      | some x => exact hx x (List.mem_of_getLast? hg)
    have co := TnN.cellS hO.bt (way.getLastD 0) (by rw [ok.len]; omega)
    have hnx : o.getD (way.getLastD 0) 0 < 4096 := Nat.lt_of_lt_of_le (ok.lt _) (Nat.pow_le_pow_right (by decide) ok.n12 : 2 ^ n ≤ 2 ^ 12)
    have hF : oddF o (d + 1) way = (memL (o.getD (way.getLastD 0) 0)).findSome? fun j => if way.contains j then none else oddF o d (way ++ [j]) := rfl
    rw [hF]
    clear hF
    generalize way.getLastD 0 = la at *
    generalize o.getD la 0 = nx at *
    have cg : w.cell? ⟨gl, 0, none⟩ = some (.int .i64 (long : Nat)) := hO.bl.cell 0
    rw [Nat.add_comm] at co
    have la0 : (0 : Int) ≤ la := by omega
    have la1 : (la : Int) < 12 := by omega
    have wl0 : (0 : Int) ≤ (way.length : Int) - 1 := by omega
    have wl1 : ((way.length : Int) - 1).toNat = way.length - 1 := by omega
    have neq : ((way.length : Int) == (long : Int)) = false := beq_eq_false_iff_ne.2 (by omega)
    rw [hlen] at hr hc ⊢
    have HR := Aside0.mk hr
    have HOO := Aside0.mk hO
    have HX := Aside0.mk hx
    have HM := Aside0.mk (fun w => members_any nx w hnx)
    clear hr hO hx hlast
    have hml := memL_len nx
    have HML := Aside0.mk (fun x (hx : x ∈ memL nx) => memL_lt hx)
    rw [show memL nx = mem12 nx 0 from rfl] at hml HML ⊢
    have qn : ∀ (w : World) (a : Option Addr) (n c n' c' : Nat), (binOp .neq 25 (.slice a n c) (.slice none n' c')).run Try.prog w = .ok (.bool (!a.isNone)) w := fun w a n c n' c' => run_neq_slice_nil_any w _ _ a n c n' c' Try.underlying25
    generalize mem12 nx 0 = M at *
    have hlm : (ints M).length = M.length := ints_length M
    obtain ⟨R, hR⟩ : ∃ R, (M.findSome? fun j => if way.contains j then none else oddF o d (way ++ [j])) = R := ⟨_, rfl⟩
    obtain ⟨gg, hgg⟩ : ∃ gg : Nat → Option (List Nat), gg = fun j => if way.contains j then none else oddF o d (way ++ [j]) := ⟨_, rfl⟩
    rw [← hgg] at hR
    have HGG := Aside0.mk (fun j => congrFun hgg j)
    have HRR := Aside0.mk hR
    rw [← hgg, hR]
    clear hgg hR
    go_enter Try.func65, Try.ntmps65
    go_wp2_with fail
    refine (HM.out w).mono ?_
    rintro e w1 ⟨v1, rfl, hr1, hb1⟩
    obtain ⟨A1, c1, rfl, hl1, hC1⟩ := Kd.R_reads hr1
    have HB1 := Aside0.mk hb1
    have HC1 := Aside0.mk hC1
    rw [hlm] at HC1 hl1 ⊢
    clear hr1 hb1 hC1 HM
    go_wp2_with fail
    go_loopw [34] (fun v wr => ∃ k : Nat, k ≤ M.length ∧ v = .int .i64 (k : Int) ∧ Aside0 (noneTo M gg k) ∧ Aside0 (Below w1.heap.size w1 wr)) (fun v _ => M.length - (intOf v).toNat)
    case atStart => exact ⟨0, Nat.zero_le _, rfl, ⟨noneTo_zero _ _⟩, ⟨Below.refl _ _⟩⟩
    case round =>
      obtain ⟨k, hk, rfl, HN, HB1r⟩ := hrel
      by_cases hkl : k < M.length
      · obtain ⟨ad1, rfl, cx⟩ := Kd.at_int HC1.out (k : Int) (by omega) (by omega)
        replace cx := (HB1r.out.cell (World.block_lt_of_cell? w1 _ cx)).trans cx
        rw [rd_ints, Int.toNat_natCast] at cx
        have hje : M.getD k 0 = M[k] := by simp [hkl]
        have hjn : M[k] < 12 := HML.out _ (List.getElem_mem hkl)
        rw [hje] at cx
        have HGk := Aside0.mk (HGG.out M[k])
        have HNN := Aside0.mk (fun h => noneTo_succ HN.out hkl h)
        have HNS := Aside0.mk (fun r h => noneTo_some (r := r) HN.out hkl h)
        generalize M[k] = jn at *
        have HBw := Aside0.mk (below_then HB1.out HB1.out.size HB1r.out)
        have HCt : Calls Try.prog 66 #[.slice (some ad) way.length c, .int .i64 (jn : Nat)] wr fun e w' => e = .returned (.bool (way.contains jn)) ∧ wr = w' := by
          have := contains_any (some ad) c (ints way) (jn : Nat) wr (by rw [hlen]; exact Kd.C_below HR.out HBw.out) (by rw [hlen]; exact hc) (by rw [hlen]; omega)
          rw [hasI_ints, hlen] at this
          exact this
        have HCC := Aside0.mk HCt
        clear HCt hje
        cases hct : way.contains jn
        · obtain ⟨ro, hro⟩ : ∃ ro, oddF o d (way ++ [jn]) = ro := ⟨_, rfl⟩
          have hgk := HGk.out
          rw [hct, hro, if_neg (by simp)] at hgk
          rw [hct] at HCC
          cases ro with
          | none =>
            have HN1 := Aside0.mk (HNN.out hgk)
            clear hgk HNN HNS HGk hct
            go_wp2_with fail
            refine HCC.out.mono ?_
            rintro e w2 ⟨rfl, rfl⟩
            go_wp2_with fail
            have HO2 := Aside0.mk (HOO.out.later (below_then HBw.out HBw.out.size (below_drew (Below.refl _ _))))
            have HB2 := Aside0.mk (below_drew HBw.out)
            have hb23 : Below wr.drew.heap.size wr.drew (wr.drew.alloc (.cells #[.int .i64 (jn : Nat)] 3)) := below_alloc (Below.refl _ _) _
            have HO3 := Aside0.mk (HO2.out.later hb23)
            have HB3 := Aside0.mk (below_then HB2.out HB2.out.size hb23)
            have HR3 := Aside0.mk (Kd.C_below HR.out HB3.out)
            have HB14 := Aside0.mk (below_then (below_drew HB1r.out) (below_drew HB1r.out).size hb23)
            clear hb23
            refine wp_region_held (S := fun wx => OddB wx gt gl go n long o ∧ Below w.heap.size w wx) (by kernel_rfl) ?_
            refine tk (i := 0) 42 (v := .func (.func 65) #[] #[.pointer (some ⟨gt, 0, none⟩), .pointer (some ⟨gl, 0, none⟩), .pointer (some ⟨go, 0, none⟩)]) rfl rfl (by kernel_rfl) (by kernel_rfl) (by kernel_rfl) (fun _ _ _ h => h) (by kernel_rfl) (fun wx h => ex_load1 rfl wx ⟨go, 0, none⟩ _ rfl (h.1.bo.cell 0) (fun w => by kernel_rfl)) ⟨HO2.out, HB2.out⟩ ?_
            simp only [pt_lit, List.set_cons_succ, List.set_cons_zero]
            refine tk (i := 1) 43 (v := .slice (some ad) way.length c) rfl rfl (by kernel_rfl) (by kernel_rfl) (by kernel_rfl) (fun _ _ _ h => h) (by kernel_rfl) (fun wx _ => by kernel_rfl) ⟨HO2.out, HB2.out⟩ ?_
            simp only [pt_lit, List.set_cons_succ, List.set_cons_zero]
            refine tk (i := 2) 44 (v := .slice (some ad) way.length c) rfl rfl (by kernel_rfl) (by kernel_rfl) (by kernel_rfl) (fun _ _ _ h => h) (by kernel_rfl) (fun wx _ => by kernel_rfl) ⟨HO2.out, HB2.out⟩ ?_
            simp only [pt_lit, List.set_cons_succ, List.set_cons_zero]
            refine tk (i := 3) 45 (v := .int .i64 (way.length : Nat)) rfl rfl (by kernel_rfl) (by kernel_rfl) (by kernel_rfl) (fun _ _ _ h => h) (by kernel_rfl) (fun wx _ => by kernel_rfl) ⟨HO2.out, HB2.out⟩ ?_
            simp only [pt_lit, List.set_cons_succ, List.set_cons_zero]
            refine tk (i := 4) 46 (v := .slice (some ad) way.length c) rfl rfl (by kernel_rfl) (by kernel_rfl) (by kernel_rfl) (fun _ _ _ h => h) (by kernel_rfl) (fun wx _ => by kernel_rfl) ⟨HO2.out, HB2.out⟩ ?_
            simp only [pt_lit, List.set_cons_succ, List.set_cons_zero]
            refine tk (i := 5) 47 (v := .int .i64 (way.length : Nat)) rfl rfl (by kernel_rfl) (by kernel_rfl) (by kernel_rfl) (fun _ _ _ h => h) (by kernel_rfl) (fun wx _ => by kernel_rfl) ⟨HO2.out, HB2.out⟩ ?_
            simp only [pt_lit, List.set_cons_succ, List.set_cons_zero]
            refine tk (i := 6) 48 (v := .slice (some ad) way.length way.length) rfl rfl (by kernel_rfl) (by kernel_rfl) (by kernel_rfl) (fun _ _ _ h => h) (by kernel_rfl) (fun wx _ => ex_slice3 rfl wx (some ad) way.length c rfl rfl rfl hc) ⟨HO2.out, HB2.out⟩ ?_
            simp only [pt_lit, List.set_cons_succ, List.set_cons_zero]
            refine tk (i := 7) 49 (v := .int .i64 (jn : Nat)) rfl rfl (by kernel_rfl) (by kernel_rfl) (by kernel_rfl) (fun _ _ _ h => h) (by kernel_rfl) (fun wx _ => by kernel_rfl) ⟨HO2.out, HB2.out⟩ ?_
            simp only [pt_lit, List.set_cons_succ, List.set_cons_zero]
            refine rv (i := 8) 50 (v := .slice (some ⟨wr.heap.size, 0, none⟩) 1 1) (w' := wr.drew.alloc (.cells #[.int .i64 (jn : Nat)] 3)) (by kernel_rfl) rfl rfl (by kernel_rfl) (by kernel_rfl) ⟨HO3.out, HB3.out⟩ ?_
            simp only [pt_lit, List.set_cons_succ, List.set_cons_zero]
            refine r_app1 (i := 9) 51 (by kernel_rfl) rfl rfl (by kernel_rfl) (s := .tmp 48) (x := .tmp 50) rfl rfl (some ad) (ints way) wr.heap.size (jn : Nat) (by rw [hlen]; rfl) rfl (by rw [hlen]; exact HR3.out) ((Blk.new wr.drew 3 #[.int .i64 (jn : Nat)]).cell 0) (by rw [hlen]; omega) (fun h => by cases h) ?_
            intro v4 w4 hr4 hb4
            rw [← ints_snoc] at hr4
            obtain ⟨A4, c4, rfl, hl4, hC4⟩ := Kd.R_reads hr4
            have HO4 := Aside0.mk (HO3.out.later hb4)
            have HB4 := Aside0.mk (below_then HB3.out HB3.out.size hb4)
            refine ⟨⟨HO4.out, HB4.out⟩, ?_⟩
            simp only [pt_lit, List.set_cons_succ, List.set_cons_zero]
            refine rc (i := 10) 52 (f := 65) (args := #[.slice A4 (ints (way ++ [jn])).length c4, .pointer (some ⟨gt, 0, none⟩), .pointer (some ⟨gl, 0, none⟩), .pointer (some ⟨go, 0, none⟩)]) (by kernel_rfl) rfl rfl (by kernel_rfl) (by kernel_rfl) ?_
            refine (IH.out (way ++ [jn]) A4 c4 _ (by rw [List.length_append]; simp; omega) (by rw [List.length_append]; simp) (fun x hx => by rcases List.mem_append.1 hx with h | h; exact HX.out x h; rw [List.mem_singleton.1 h]; exact hjn) HO4.out hC4 hl4).mono ?_
            rw [hro]
            clear hr4 hC4 hl4
            rintro e w5 ⟨rfl, hb5⟩
            have HO5 := Aside0.mk (HO4.out.later hb5)
            have HB5 := Aside0.mk (below_then HB4.out HB4.out.size hb5)
            have HB15 := Aside0.mk (below_then HB14.out HB14.out.size (below_then hb4 hb4.size hb5))
            refine ⟨_, rfl, ⟨HO5.out, HB5.out⟩, ?_⟩
            clear hb5 hb4
            simp only [pt_lit, List.set_cons_succ, List.set_cons_zero]
            refine rv (i := 11) 9 (v := .slice none 0 0) (w' := w5) (by kernel_rfl) rfl rfl (by kernel_rfl) (by kernel_rfl) ⟨HO5.out, HB5.out⟩ ?_
            simp only [pt_lit, List.set_cons_succ, List.set_cons_zero]
            refine wpAnyH_done (by kernel_rfl) ?_ _
            go_wp2_with fail
            go_roundw
            case rel => exact ⟨k + 1, by omega, by go_num, HN1, HB15⟩
            case measure => simp [intOf]; omega
          | some res =>
            have HF := Aside0.mk (HRR.out.symm.trans (HNS.out res hgk))
            clear hgk HNN HNS HGk hct
            go_wp2_with fail
            refine HCC.out.mono ?_
            rintro e w2 ⟨rfl, rfl⟩
            go_wp2_with fail
            have HO2 := Aside0.mk (HOO.out.later (below_then HBw.out HBw.out.size (below_drew (Below.refl _ _))))
            have HB2 := Aside0.mk (below_drew HBw.out)
            have hb23 : Below wr.drew.heap.size wr.drew (wr.drew.alloc (.cells #[.int .i64 (jn : Nat)] 3)) := below_alloc (Below.refl _ _) _
            have HO3 := Aside0.mk (HO2.out.later hb23)
            have HB3 := Aside0.mk (below_then HB2.out HB2.out.size hb23)
            have HR3 := Aside0.mk (Kd.C_below HR.out HB3.out)
            have HB14 := Aside0.mk (below_then (below_drew HB1r.out) (below_drew HB1r.out).size hb23)
            clear hb23
            refine wp_region_held (S := fun wx => OddB wx gt gl go n long o ∧ Below w.heap.size w wx) (by kernel_rfl) ?_
            refine tk (i := 0) 42 (v := .func (.func 65) #[] #[.pointer (some ⟨gt, 0, none⟩), .pointer (some ⟨gl, 0, none⟩), .pointer (some ⟨go, 0, none⟩)]) rfl rfl (by kernel_rfl) (by kernel_rfl) (by kernel_rfl) (fun _ _ _ h => h) (by kernel_rfl) (fun wx h => ex_load1 rfl wx ⟨go, 0, none⟩ _ rfl (h.1.bo.cell 0) (fun w => by kernel_rfl)) ⟨HO2.out, HB2.out⟩ ?_
            simp only [pt_lit, List.set_cons_succ, List.set_cons_zero]
            refine tk (i := 1) 43 (v := .slice (some ad) way.length c) rfl rfl (by kernel_rfl) (by kernel_rfl) (by kernel_rfl) (fun _ _ _ h => h) (by kernel_rfl) (fun wx _ => by kernel_rfl) ⟨HO2.out, HB2.out⟩ ?_
            simp only [pt_lit, List.set_cons_succ, List.set_cons_zero]
            refine tk (i := 2) 44 (v := .slice (some ad) way.length c) rfl rfl (by kernel_rfl) (by kernel_rfl) (by kernel_rfl) (fun _ _ _ h => h) (by kernel_rfl) (fun wx _ => by kernel_rfl) ⟨HO2.out, HB2.out⟩ ?_
            simp only [pt_lit, List.set_cons_succ, List.set_cons_zero]
            refine tk (i := 3) 45 (v := .int .i64 (way.length : Nat)) rfl rfl (by kernel_rfl) (by kernel_rfl) (by kernel_rfl) (fun _ _ _ h => h) (by kernel_rfl) (fun wx _ => by kernel_rfl) ⟨HO2.out, HB2.out⟩ ?_
            simp only [pt_lit, List.set_cons_succ, List.set_cons_zero]
            refine tk (i := 4) 46 (v := .slice (some ad) way.length c) rfl rfl (by kernel_rfl) (by kernel_rfl) (by kernel_rfl) (fun _ _ _ h => h) (by kernel_rfl) (fun wx _ => by kernel_rfl) ⟨HO2.out, HB2.out⟩ ?_
            simp only [pt_lit, List.set_cons_succ, List.set_cons_zero]
            refine tk (i := 5) 47 (v := .int .i64 (way.length : Nat)) rfl rfl (by kernel_rfl) (by kernel_rfl) (by kernel_rfl) (fun _ _ _ h => h) (by kernel_rfl) (fun wx _ => by kernel_rfl) ⟨HO2.out, HB2.out⟩ ?_
            simp only [pt_lit, List.set_cons_succ, List.set_cons_zero]
            refine tk (i := 6) 48 (v := .slice (some ad) way.length way.length) rfl rfl (by kernel_rfl) (by kernel_rfl) (by kernel_rfl) (fun _ _ _ h => h) (by kernel_rfl) (fun wx _ => ex_slice3 rfl wx (some ad) way.length c rfl rfl rfl hc) ⟨HO2.out, HB2.out⟩ ?_
            simp only [pt_lit, List.set_cons_succ, List.set_cons_zero]
            refine tk (i := 7) 49 (v := .int .i64 (jn : Nat)) rfl rfl (by kernel_rfl) (by kernel_rfl) (by kernel_rfl) (fun _ _ _ h => h) (by kernel_rfl) (fun wx _ => by kernel_rfl) ⟨HO2.out, HB2.out⟩ ?_
            simp only [pt_lit, List.set_cons_succ, List.set_cons_zero]
            refine rv (i := 8) 50 (v := .slice (some ⟨wr.heap.size, 0, none⟩) 1 1) (w' := wr.drew.alloc (.cells #[.int .i64 (jn : Nat)] 3)) (by kernel_rfl) rfl rfl (by kernel_rfl) (by kernel_rfl) ⟨HO3.out, HB3.out⟩ ?_
            simp only [pt_lit, List.set_cons_succ, List.set_cons_zero]
            refine r_app1 (i := 9) 51 (by kernel_rfl) rfl rfl (by kernel_rfl) (s := .tmp 48) (x := .tmp 50) rfl rfl (some ad) (ints way) wr.heap.size (jn : Nat) (by rw [hlen]; rfl) rfl (by rw [hlen]; exact HR3.out) ((Blk.new wr.drew 3 #[.int .i64 (jn : Nat)]).cell 0) (by rw [hlen]; omega) (fun h => by cases h) ?_
            intro v4 w4 hr4 hb4
            rw [← ints_snoc] at hr4
            obtain ⟨A4, c4, rfl, hl4, hC4⟩ := Kd.R_reads hr4
            have HO4 := Aside0.mk (HO3.out.later hb4)
            have HB4 := Aside0.mk (below_then HB3.out HB3.out.size hb4)
            refine ⟨⟨HO4.out, HB4.out⟩, ?_⟩
            simp only [pt_lit, List.set_cons_succ, List.set_cons_zero]
            refine rc (i := 10) 52 (f := 65) (args := #[.slice A4 (ints (way ++ [jn])).length c4, .pointer (some ⟨gt, 0, none⟩), .pointer (some ⟨gl, 0, none⟩), .pointer (some ⟨go, 0, none⟩)]) (by kernel_rfl) rfl rfl (by kernel_rfl) (by kernel_rfl) ?_
            refine (IH.out (way ++ [jn]) A4 c4 _ (by rw [List.length_append]; simp; omega) (by rw [List.length_append]; simp) (fun x hx => by rcases List.mem_append.1 hx with h | h; exact HX.out x h; rw [List.mem_singleton.1 h]; exact hjn) HO4.out hC4 hl4).mono ?_
            rw [hro]
            clear hr4 hC4 hl4
            rintro e w5 ⟨A5, c5, rfl, hl5, hC5, hb5⟩
            have HO5 := Aside0.mk (HO4.out.later hb5)
            have HB5 := Aside0.mk (below_then HB4.out HB4.out.size hb5)
            have HC5 := Aside0.mk hC5
            have HL5 := Aside0.mk hl5
            refine ⟨_, rfl, ⟨HO5.out, HB5.out⟩, ?_⟩
            clear hb5 hC5 hb4 hl5
            simp only [pt_lit, List.set_cons_succ, List.set_cons_zero]
            refine rv (i := 11) 9 (v := .slice (some A5) (ints res).length c5) (w' := w5) (by kernel_rfl) rfl rfl (by kernel_rfl) (by kernel_rfl) ⟨HO5.out, HB5.out⟩ ?_
            simp only [pt_lit, List.set_cons_succ, List.set_cons_zero]
            refine wpAnyH_done (by kernel_rfl) ?_ _
            go_wp2_with fail
            go_ret
            rw [HF.out]
            exact ⟨A5, c5, rfl, HL5.out, HC5.out, HB5.out⟩
        · have hgk := HGk.out
          rw [hct, if_pos rfl] at hgk
          have HN1 := Aside0.mk (HNN.out hgk)
          rw [hct] at HCC
          clear hgk HNN HNS HGk hct
          go_wp2_with fail
          refine HCC.out.mono ?_
          rintro e w2 ⟨rfl, rfl⟩
          go_wp2_with fail
          go_roundw
          case rel => exact ⟨k + 1, by omega, by go_num, HN1, HB1r⟩
          case measure => simp [intOf]; omega
      · obtain rfl : k = M.length := by omega
        have HF := Aside0.mk (HRR.out.symm.trans (noneTo_all HN.out))
        go_wp2_with fail
        go_ret
        rw [HF.out]
        exact ⟨rfl, below_then HB1.out HB1.out.size HB1r.out⟩
end Go.Proofs.Ytmobefgnkiboaaa.Im

namespace Go.Proofs.Ytmobefgnkiboaaa.Im
open Go.RowKit Go.Proofs.YtmobefgnkiboaaaW.PrintWords Go.Proofs.YtmobefgnkiboaaaW.PrintLast Go.Proofs.YtmobefgnkiboaaaW.PrintMore
set_option linter.unusedVariables false

/-- The first odd cycle: the shortest, and of these the first. -/
def oddI (o : List Nat) (n q : Nat) : Option (List Nat) := (List.range n).findSome? fun i => oddF o (2 * q) [i]
def oddS (n : Nat) (o : List Nat) : Option (List Nat) := (List.range ((n + 1) / 2)).findSome? fun q => oddI o n q
/-- What a search for a list hands back beside an error: 0, or 10. -/
def FoundE (w : World) (r : Option (List Nat)) (e : Ending) (w' : World) : Prop :=
  match r with
  | some l => ∃ A c, e = .returned (.tuple #[.slice (some A) (ints l).length c, .int .i64 0]) ∧ (ints l).length ≤ c ∧ Kd.C (Kd.int .i64) w' (some A) (ints l).length (ints l) ∧ Below w.heap.size w w'
  | none => e = .returned (.tuple #[.slice none 0 0, .int .i64 10]) ∧ Below w.heap.size w w'
def OddPost (n : Int) (l : List S43) (w : World) (e : Ending) (w' : World) : Prop :=
  if ofE n l = 0 then FoundE w (oddS n.toNat (townO l)) e w'
  else e = .returned (.tuple #[.slice none 0 0, .int .i64 (ofE n l)]) ∧ Below w.heap.size w w'
theorem cf65 (args : Array Value) (w : World) : (callFunc 65 args).run Try.prog w = .ok (.enter 65 args) w := by kernel_rfl

/-- A list of one number in a block of its own. -/
theorem C_one (w : World) (i : Nat) : Kd.C (Kd.int .i64) (w.alloc (.cells #[.int .i64 (i : Nat)] 3)) (some ⟨w.heap.size, 0, none⟩) (ints [i]).length (ints [i]) := by
  have h1 : (w.alloc (.cells #[.int .i64 (i : Nat)] 3)).ownsRow w.heap.size 3 1 (.slice (some ⟨w.heap.size, 0, none⟩) 1 1) (ints [i]).length (encs (Value.int .i64) (ints [i])) :=
    ⟨rfl, .inr ⟨w.heap.size, 1, #[.int .i64 (i : Nat)], rfl, Nat.le_refl _, Blk.new w 3 _, by simp [ints], by decide, rfl, rfl⟩⟩
  have h2 : Kd.R (Kd.int .i64) 3 (w.alloc (.cells #[.int .i64 (i : Nat)] 3)) w.heap.size (fun _ => True) (.slice (some ⟨w.heap.size, 0, none⟩) 1 1) (ints [i]) := Kd.R_of_own h1 (fun _ _ => trivial)
  obtain ⟨A, c, e, _, hC⟩ := Kd.R_reads h2
  injection e with e1
  rw [← e1] at hC
  exact hC

set_option maxHeartbeats 3200000 in
set_option maxRecDepth 100000 in
theorem Odd_any (n : Int) (A : Option Addr) (c : Nat) (l : List S43) (w : World) (hr : Kd.C k43 w A l.length l) (hc : l.length ≤ c) :
    Calls Try.prog 28 #[.int .i64 n, .slice A l.length c] w (OddPost n l w) := by
  have hmf : ∀ (fn : Fn) (first cap : Array Value) (w : World), (Instr.makeFunc fn first cap).run Try.prog w = .ok (.func fn first cap) w := fun _ _ _ _ => rfl
  have hsf := fun (a : Addr) (c : Array Value) (w : World) => run_store Try.prog w a (.func (.func 65) #[] c) .plain rfl
  have qn : ∀ (w : World) (a : Option Addr) (n c n' c' : Nat), (binOp .neq 25 (.slice a n c) (.slice none n' c')).run Try.prog w = .ok (.bool (!a.isNone)) w := fun w a n c n' c' => run_neq_slice_nil_any w _ _ a n c n' c' Try.underlying25
  have HO := Aside0.mk (of_A n A c l w hr hc)
  have HZ := Aside0.mk (ofA_size n l)
  have H1 := Aside0.mk (ofA_one n l)
  clear hr hc
  by_cases he : ofE n l = 0
  · have ok := okt_of he
    have hA : ofA n l = tnN n.toNat (townO l) := by rw [ofA, if_pos he]
    have hK : OddPost n l w = FoundE w (oddS n.toNat (townO l)) := by funext e w'; simp [OddPost, he]
    have hnn := (ofE_ok he).1
    rw [hK]
    rw [hA] at HO HZ H1
    rw [he] at HO
    clear he hA hK
    generalize townO l = o at *
    obtain ⟨m, rfl⟩ : ∃ m : Nat, n = m := ⟨n.toNat, by omega⟩
    rw [Int.toNat_natCast] at *
    have HK := Aside0.mk ok
    have n12 := ok.n12
    clear ok hnn
    obtain ⟨R, hR⟩ : ∃ R, oddS m o = R := ⟨_, rfl⟩
    rw [hR]
    have HR := Aside0.mk hR
    clear hR
    go_enter Try.func28, Try.ntmps28
    go_wp2_with fail
    refine HO.out.mono ?_
    rintro e w1 ⟨rfl, hb⟩
    have HB := Aside0.mk hb
    clear hb HO
    have HT : Aside0 (TnN (w1.alloc (.cells (tnN m o) 50)) w1.heap.size m o) := ⟨Blk.new _ _ _⟩
    have HB1 := Aside0.mk (below_alloc HB.out (.cells (tnN m o) 50))
    go_wp2_with (refine wpList_store_row rfl 50 _ _ rfl w1.heap.size (tnN m o) rfl rfl 50 (tnN 0 zero12) (heap_alloc_new w1 _) (by rw [info50, HZ.out]) (by rw [HZ.out]; rfl) H1.out ?_; rw [World.setRow_alloc_new])
    go_loopg [8] 7 (fun kq v wr => ∃ (q gl : Nat), kq + q = 7 ∧ v = .pointer (some ⟨gl, 0, none⟩) ∧ Aside0 (Blk wr gl 3 #[.int .i64 (2 * q + 1 : Nat)]) ∧ Aside0 (TnN wr w1.heap.size m o) ∧ Aside0 (Below w.heap.size w wr) ∧ Aside0 (q ≤ (m + 1) / 2) ∧ Aside0 (noneTo (List.range ((m + 1) / 2)) (oddI o m) q))
    case atStart => exact ⟨0, w1.heap.size + 1, rfl, rfl, ⟨by simpa using Blk.new (w1.alloc (.cells (tnN m o) 50)) 3 #[.int .i64 1]⟩, ⟨Blk.alloc HT.out _⟩, ⟨below_alloc HB1.out _⟩, ⟨by omega⟩, ⟨noneTo_zero _ _⟩⟩
    case round =>
      obtain ⟨q, gl, hq, rfl, HG, HT2, HB2, HQM, HN⟩ := hrel
      have cl := HG.out.cell 0
      simp only [List.getElem?_toArray, List.getElem?_cons_zero] at cl
      by_cases hlm : 2 * q + 1 ≤ m
      · have hlm' : (2 * (q : Int) + 1) ≤ m := by omega
        have hqm : q < (m + 1) / 2 := by omega
        have HNN := Aside0.mk (fun h => noneTo_succ HN.out (by rw [List.length_range]; exact hqm) h)
        have HNS := Aside0.mk (fun r h => noneTo_some (r := r) HN.out (by rw [List.length_range]; exact hqm) h)
        simp only [List.getElem_range] at HNN HNS
        obtain ⟨k1, rfl⟩ : ∃ k1, gk = k1 + 1 := ⟨gk - 1, by omega⟩
        have ha1 : Below wr.heap.size wr (wr.alloc (.cells #[.func (.func 65) #[] #[.pointer (some ⟨w1.heap.size, 0, none⟩), .pointer (some ⟨gl, 0, none⟩), .pointer (some ⟨wr.heap.size, 0, none⟩)]] 54)) := below_alloc (Below.refl _ _) _
        have HOB : Aside0 (OddB (wr.alloc (.cells #[.func (.func 65) #[] #[.pointer (some ⟨w1.heap.size, 0, none⟩), .pointer (some ⟨gl, 0, none⟩), .pointer (some ⟨wr.heap.size, 0, none⟩)]] 54)) w1.heap.size gl wr.heap.size m (2 * q + 1) o) :=
          ⟨⟨Blk.alloc HT2.out _, HG.out.alloc _, Blk.new _ _ _⟩⟩
        have HB3 := Aside0.mk (below_then HB2.out HB2.out.size ha1)
        clear ha1
        go_wp2_with fail
        generalize wr.alloc (.cells #[.func (.func 65) #[] #[.pointer (some ⟨w1.heap.size, 0, none⟩), .pointer (some ⟨gl, 0, none⟩), .pointer (some ⟨wr.heap.size, 0, none⟩)]] 54) = W0 at *
        generalize wr.heap.size = gB at *
        go_loopw [28] (fun v wx => ∃ i : Nat, i ≤ m ∧ v = .int .i64 (i : Int) ∧ Aside0 (noneTo (List.range m) (fun i => oddF o (2 * q) [i]) i) ∧ Aside0 (Below W0.heap.size W0 wx)) (fun v _ => m - (intOf v).toNat)
        case atStart => exact ⟨0, Nat.zero_le _, rfl, ⟨noneTo_zero _ _⟩, ⟨Below.refl _ _⟩⟩
        case round =>
          obtain ⟨i, hi, rfl, HNi, HBx⟩ := hrel
          by_cases him : i < m
          · have HN1 := Aside0.mk (fun h => noneTo_succ HNi.out (by rw [List.length_range]; exact him) h)
            have HN2 := Aside0.mk (fun r h => noneTo_some (r := r) HNi.out (by rw [List.length_range]; exact him) h)
            simp only [List.getElem_range] at HN1 HN2
            have hOx := HOB.out.later HBx.out
            have co : wr.cell? ⟨gB, 0, none⟩ = some (.func (.func 65) #[] #[.pointer (some ⟨w1.heap.size, 0, none⟩), .pointer (some ⟨gl, 0, none⟩), .pointer (some ⟨gB, 0, none⟩)]) := hOx.bo.cell 0
            have hbx2 : Below wr.heap.size wr (wr.alloc (.cells #[.int .i64 (i : Nat)] 3)) := below_alloc (Below.refl _ _) _
            have hC : Kd.C (Kd.int .i64) (wr.alloc (.cells #[.int .i64 (i : Nat)] 3)) (some ⟨wr.heap.size, 0, none⟩) (ints [i]).length (ints [i]) := C_one wr i
            have HCall := Aside0.mk (odd1_any w1.heap.size gl gB m (2 * q + 1) o HK.out (by omega) (2 * q) [i] (some ⟨wr.heap.size, 0, none⟩) 1 _ (by simp; omega) (by simp) (fun x hx => by rw [List.mem_singleton.1 hx]; omega) (hOx.later hbx2) hC (by simp [ints]))
            have HBy := Aside0.mk (below_then HBx.out HBx.out.size hbx2)
            obtain ⟨ro, hro⟩ : ∃ ro, oddF o (2 * q) [i] = ro := ⟨_, rfl⟩
            rw [hro] at HCall HN1 HN2
            clear hbx2 hC hOx hro
            go_wp2_with fail
            refine HCall.out.mono ?_
            cases ro with
            | none =>
              rintro e w5 ⟨rfl, hb5⟩
              have HB5 := Aside0.mk (below_then HBy.out HBy.out.size hb5)
              have HN3 := Aside0.mk (HN1.out rfl)
              clear hb5
              go_wp2_with fail
              go_roundw
              case rel => exact ⟨i + 1, by omega, by go_num, HN3, HB5⟩
              case measure => simp [intOf]; omega
            | some res =>
              rintro e w5 ⟨A5, c5, rfl, hl5, hC5, hb5⟩
              have HB5 := Aside0.mk (below_then HBy.out HBy.out.size hb5)
              have HF := Aside0.mk (HR.out.symm.trans (HNS.out res (HN2.out res rfl)))
              have HC5 := Aside0.mk hC5
              have HL5 := Aside0.mk hl5
              clear hb5 hC5 hl5
              go_wp2_with fail
              go_ret2
              rw [HF.out]
              exact ⟨A5, c5, rfl, HL5.out, HC5.out, below_then HB3.out HB3.out.size HB5.out⟩
          · obtain rfl : i = m := by omega
            have hN0 : oddI o i q = none := by
              have := HNi.out
              have h2 := noneTo_all (l := List.range i) (g := fun i => oddF o (2 * q) [i]) (by rw [List.length_range]; exact this)
              exact h2
            have HNq := Aside0.mk (HNN.out hN0)
            have hOx := HOB.out.later HBx.out
            have cg : wr.cell? ⟨gl, 0, none⟩ = some (.int .i64 (2 * q + 1 : Nat)) := hOx.bl.cell 0
            have HT5 := Aside0.mk hOx.bt
            have HB6 := Aside0.mk (below_then HB3.out HB3.out.size HBx.out)
            clear hOx hN0
            go_wp2_with fail
            go_roundg k1
            case measure => omega
            case rel => exact ⟨q + 1, wr.heap.size, by omega, rfl, ⟨by have := Blk.new wr 3 #[.int .i64 (2 * (q + 1) + 1 : Nat)]; have e : ((2 * (q + 1) + 1 : Nat) : Int) = 2 * (q : Int) + 1 + 2 := (by omega); rw [e] at this; exact this⟩, ⟨Blk.alloc HT5.out _⟩, ⟨below_alloc HB6.out _⟩, ⟨by omega⟩, HNq⟩
      · have hlm' : ¬ ((2 * (q : Int) + 1) ≤ m) := by omega
        have HF := Aside0.mk (show R = none by
          have h1 := HN.out
          have h2 : q = (List.range ((m + 1) / 2)).length := by rw [List.length_range]; have := HQM.out; omega
          rw [h2] at h1
          exact HR.out.symm.trans (noneTo_all h1))
        go_wp2_with fail
        go_ret2
        rw [HF.out]
        exact ⟨rfl, HB2.out⟩
  · have hK : OddPost n l w = fun e w' => e = .returned (.tuple #[.slice none 0 0, .int .i64 (ofE n l)]) ∧ Below w.heap.size w w' := by funext e w'; simp [OddPost, he]
    rw [hK]
    have hb : (ofE n l != 0) = true := bne_iff_ne.2 he
    have hb' : (ofE n l == 0) = false := beq_eq_false_iff_ne.2 he
    clear hK he
    generalize ofE n l = er at *
    go_enter Try.func28, Try.ntmps28
    go_wp2_with fail
    refine HO.out.mono ?_
    rintro e w1 ⟨rfl, hb⟩
    have HB := Aside0.mk hb
    clear hb HO
    go_wp2_with (refine wpList_store_row rfl 50 _ _ rfl w1.heap.size (ofA n l) rfl rfl 50 (tnN 0 zero12) (heap_alloc_new w1 _) (by rw [info50, HZ.out]) (by rw [HZ.out]; rfl) H1.out ?_)
    go_ret2
    exact ⟨rfl, by rw [World.setRow_alloc_new]; exact below_alloc HB.out _⟩
end Go.Proofs.Ytmobefgnkiboaaa.Im
