/- The list of kernels, the first of them, their number. -/
import Derived.Test.YtmobefgnkiboaaaRf10
import Derived.Test.YtmobefgnkiboaaaLa3
namespace Go.Proofs.Ytmobefgnkiboaaa.Im
open Go.RowKit Go.Proofs.YtmobefgnkiboaaaW.PrintWords Go.Proofs.YtmobefgnkiboaaaW.PrintLast Go.Proofs.YtmobefgnkiboaaaW.PrintMore
set_option linter.unusedVariables false

def inK (n : Nat) (o : List Nat) (p x : Nat) : Bool := x &&& p == x && kerB n o x p
def kernL (n : Nat) (o : List Nat) (p : Nat) : List Nat := (List.range' 0 (p + 1)).filter (inK n o p)
theorem kers_l0 (n : Nat) (o : List Nat) (ok : Okt n o) (p : Nat) (hp : p < 4096) : ∀ (d s : Nat) (acc : List Nat), s + d = p + 1 → acc.length ≤ s →
    Gives (fun k => pomaderef02_kernels.l0 k (ints (o.take n)) p (ints acc) s) (ints (acc ++ (List.range' s d).filter (inK n o p)))
  | 0, s, acc, h, ha => Gives.now fun k => by
    simp only [pomaderef02_kernels.l0]
    rw [if_neg (by omega)]
    simp
  | d + 1, s, acc, h, ha => by
    have hl := ints_length acc
    rw [List.range'_succ, List.filter_cons]
    by_cases h1 : s &&& p = s
    · have hk := ker_g n o ok s p (by omega) hp
      cases hb : kerB n o s p with
      | true =>
        have e : inK n o p s = true := by unfold inK; rw [hb, Bool.and_true, beq_iff_eq]; exact h1
        rw [if_pos e]
        rw [hb] at hk
        refine hk.step2 (kers_l0 n o ok p hp d (s + 1) (acc ++ [s]) (by omega) (by simp; omega)) fun k hk1 hk2 => ?_
        simp only [pomaderef02_kernels.l0]
        rw [if_pos (by omega), b_and _ _ (by omega) (by omega), if_pos (by rw [h1]), hk1, Option.bind_some, if_pos rfl, if_pos (by omega), ints_snoc', wr_succ s (by omega)]
        rw [List.append_assoc] at hk2
        exact hk2
      | false =>
        have e : inK n o p s = false := by unfold inK; rw [hb, Bool.and_false]
        rw [if_neg (by rw [e]; simp)]
        rw [hb] at hk
        refine hk.step2 (kers_l0 n o ok p hp d (s + 1) acc (by omega) (by omega)) fun k hk1 hk2 => ?_
        simp only [pomaderef02_kernels.l0]
        rw [if_pos (by omega), b_and _ _ (by omega) (by omega), if_pos (by rw [h1]), hk1, Option.bind_some, if_neg (by simp), wr_succ s (by omega)]
        exact hk2
    · have e : inK n o p s = false := by unfold inK; rw [beq_eq_false_iff_ne.2 h1, Bool.false_and]
      rw [if_neg (by rw [e]; simp)]
      refine (kers_l0 n o ok p hp d (s + 1) acc (by omega) (by omega)).step fun k hk2 => ?_
      simp only [pomaderef02_kernels.l0]
      rw [if_pos (by omega), b_and _ _ (by omega) (by omega), if_neg (by omega), wr_succ s (by omega)]
      exact hk2
theorem kers_g (n : Nat) (o : List Nat) (ok : Okt n o) (p : Nat) (hp : p < 4096) : Gives (fun k => pomaderef02_kernels.f k (ints (o.take n)) p) (ints (kernL n o p)) := by
  have := kers_l0 n o ok p hp (p + 1) 0 [] (by omega) (Nat.le_refl _)
  rw [List.nil_append] at this
  exact this
theorem kernL_full (n : Nat) (o : List Nat) : kernL n o (2 ^ n - 1) = (List.range (2 ^ n)).filter fun s => kerB n o s (2 ^ n - 1) := by
  have h2 := Nat.two_pow_pos n
  unfold kernL
  rw [show 2 ^ n - 1 + 1 = 2 ^ n by omega, ← List.range_eq_range']
  apply List.filter_congr
  intro x hx
  have hx' := List.mem_range.1 hx
  unfold inK
  rw [Nat.and_two_pow_sub_one_eq_mod, Nat.mod_eq_of_lt hx', beq_self_eq_true, Bool.true_and]
theorem manyK_eq (n : Nat) (o : List Nat) : manyK n o (2 ^ n) = (kernL n o (2 ^ n - 1)).length := by rw [kernL_full]; rfl
theorem Kernels_g (n : Int) (l : List S43) : Gives (fun k => pomaderef02_Kernels.f k n l) ((if ofE n l = 0 then (manyK n.toNat (townO l) (2 ^ n.toNat) : Int) else 0), ofE n l) := by
  have hT := Town_g n l
  by_cases he : ofE n l = 0
  · have hn := (ofE_ok he).1
    have ok := okt_of he
    rw [if_pos he] at hT
    rw [if_pos he, he]
    obtain ⟨m, rfl⟩ : ∃ m : Nat, n = m := ⟨n.toNat, by omega⟩
    rw [Int.toNat_natCast] at *
    have n12 := ok.n12
    have h12 : (2 : Nat) ^ m ≤ 2 ^ 12 := Nat.pow_le_pow_right (by decide) n12
    refine hT.map2 (kers_g m (townO l) ok (2 ^ m - 1) (by omega)) fun k hk hk2 => ?_
    simp only [pomaderef02_Kernels.f]
    rw [hk, Option.bind_some, if_pos rfl, if_pos (by omega), all1 m n12]
    show (pomaderef02_kernels.f k (ints ((townO l).take (m : Int).toNat)) _).bind _ = _
    rw [Int.toNat_natCast, hk2, Option.bind_some, ints_length, manyK_eq]
  · rw [if_neg he] at hT
    rw [if_neg he]
    refine hT.map fun k hk => ?_
    simp only [pomaderef02_Kernels.f]
    rw [hk, Option.bind_some, if_neg he]
theorem refKernels_any (n : Int) (A : Option Addr) (c : Nat) (l : List S43) (w : World) (hr : Kd.C k43 w A l.length l) (hc : l.length ≤ c) :
    Calls Try.prog 35 #[.int .i64 n, .slice A l.length c] w (KernelsPost n l w) := by
  obtain ⟨k0, hk0⟩ := Kernels_g n l
  exact pomaderef02_Kernels.calls k0 n A c l _ _ w hr hc (hk0 k0 (Nat.le_refl _))
theorem refIs_any (n : Int) (A : Option Addr) (c : Nat) (l : List S43) (B : Option Addr) (d : Nat) (s : List Int) (w : World) (hr : Kd.C k43 w A l.length l) (hc : l.length ≤ c)
    (hr2 : Kd.C (Kd.int .i64) w B s.length s) (hd : s.length ≤ d) (hs : s.length < 1000000) :
    Calls Try.prog 33 #[.int .i64 n, .slice A l.length c, .slice B s.length d] w (IsPost n l s w) := by
  obtain ⟨k0, hk0⟩ := Is_g n l s hs
  exact pomaderef02_Is.calls k0 n A c l B d s _ _ w hr hc hr2 hd (hk0 k0 (Nat.le_refl _))
theorem memS_any (s : Nat) (w : World) (hs : s < 4096) : Calls Try.prog 53 #[.int .i64 s] w (MemPost (memL s) w) := by
  obtain ⟨k0, hk0⟩ := members_g s hs
  exact (pomaderef01_Members.calls k0 s _ w (hk0 k0 (Nat.le_refl _))).mono fun _ _ ⟨v, h1, h2, h3⟩ => ⟨v, h1, h2, h3⟩
theorem kernelsC_any (n : Nat) (o : List Nat) (p : Nat) (A : Option Addr) (c : Nat) (w : World) (ok : Okt n o) (hp : p < 4096) (hr : Kd.C (Kd.int .i64) w A n (ints (o.take n))) (hc : n ≤ c) :
    Calls Try.prog 72 #[.slice A n c, .int .i64 p] w fun e w' => ∃ B d, e = .returned (.slice B (kernL n o p).length d) ∧ (kernL n o p).length ≤ d ∧ Kd.C (Kd.int .i64) w' B (kernL n o p).length (ints (kernL n o p)) ∧ Below w.heap.size w w' := by
  obtain ⟨k0, hk0⟩ := kers_g n o ok p hp
  have h := pomaderef02_kernels.calls k0 A c (ints (o.take n)) p _ w (by rw [takes_len ok]; exact hr) (by rw [takes_len ok]; exact hc) (hk0 k0 (Nat.le_refl _))
  rw [takes_len ok] at h
  refine h.mono ?_
  rintro e w' ⟨v, rfl, h2, h3⟩
  obtain ⟨B, d, rfl, h4, h5⟩ := Kd.R_reads h2
  rw [ints_length] at h4 h5 ⊢
  exact ⟨B, d, rfl, h4, h5, h3⟩

/-! ### first -/
theorem memL_pos {s : Nat} (hs : s < 4096) (h0 : 0 < s) : 0 < (memL s).length := by
  rcases Nat.eq_zero_or_pos (memL s).length with h | h
  · have := memL_nil hs (List.eq_nil_of_length_eq_zero h); omega
  · exact h
def BestV (w : World) (b : Option Nat) (v : Value) : Prop :=
  match b with
  | none => v = .slice none 0 0
  | some t => ∃ A c, v = .slice (some A) (memL t).length c ∧ (memL t).length ≤ c ∧ Kd.C (Kd.int .i64) w (some A) (memL t).length (ints (memL t))
set_option maxHeartbeats 3200000 in
set_option maxRecDepth 100000 in
theorem first64_any (S : List Nat) (hS : ∀ s ∈ S, s < 4096 ∧ 0 < s) (A : Option Addr) (c : Nat) (w : World) (hr : Kd.C (Kd.int .i64) w A S.length (ints S)) (hc : S.length ≤ c) (hl : S.length < 1000000) :
    Calls Try.prog 64 #[.slice A S.length c] w (FoundP w ((bestS S).map memL)) := by
  have qe : ∀ (w : World) (a : Option Addr) (n c n' c' : Nat), (binOp .eql 25 (.slice a n c) (.slice none n' c')).run Try.prog w = .ok (.bool a.isNone) w := fun w a n c n' c' => Lib.run_eql_slice_nil w _ _ a n c n' c' Try.underlying25
  have HR := Aside0.mk hr
  have HS := Aside0.mk hS
  clear hr hS
  go_enter Try.func64, Try.ntmps64
  go_wp2_with fail
  go_loopw [3, 4] (fun vb v wr => ∃ k : Nat, k ≤ S.length ∧ v = .int .i64 (k : Int) ∧ Aside0 (BestV wr (bestS (S.take k)) vb ∧ ∀ t, bestS (S.take k) = some t → t ∈ S) ∧ Aside0 (Below w.heap.size w wr)) (fun _ v _ => S.length - (intOf v).toNat)
  case atStart => exact ⟨0, Nat.zero_le _, rfl, ⟨rfl, fun t h => by cases h⟩, ⟨Below.refl _ _⟩⟩
  case round =>
    obtain ⟨k, hk, rfl, HV, HB⟩ := hrel
    by_cases hkl : k < S.length
    · obtain ⟨ad, e0, cx⟩ := Kd.at_int (Kd.C_below HR.out HB.out) (k : Int) (by omega) (by omega)
      cases e0
      rw [rd_ints, Int.toNat_natCast] at cx
      have hsg : S.getD k 0 = S[k] := by rw [List.getD_eq_getElem?_getD, List.getElem?_eq_getElem hkl]; rfl
      have hsm : S.getD k 0 ∈ S := by rw [hsg]; exact List.getElem_mem _
      have hsn : bestS (S.take (k + 1)) = pick (bestS (S.take k)) (S.getD k 0) := by rw [List.take_succ_eq_append_getElem hkl, bestS_snoc, hsg]
      have HSN := Aside0.mk hsn
      obtain ⟨hs1, hs2⟩ := HS.out _ hsm
      have HSM := Aside0.mk hsm
      have hpos := memL_pos hs1 hs2
      have hm12 := memL_len (S.getD k 0)
      have HM := Aside0.mk (fun w => memS_any (S.getD k 0) w hs1)
      generalize S.getD k 0 = s at *
      clear hsg hsm hsn
      go_wp2_with fail
      refine (HM.out _).mono ?_
      rintro e w2 ⟨v2, rfl, h2, hb2⟩
      obtain ⟨A2, c2, rfl, hc2, hC2⟩ := Kd.R_reads h2
      rw [ints_length] at hc2 hC2 ⊢
      obtain ⟨a2, rfl⟩ := C_some (by rw [ints_length]; exact hC2) (by rw [ints_length]; exact hpos)
      have HB2 := Aside0.mk (below_then HB.out HB.out.size hb2)
      have HC2 := Aside0.mk hC2
      obtain ⟨B, hB⟩ : ∃ B, bestS (S.take k) = B := ⟨_, rfl⟩
      rw [hB] at HV HSN
      clear h2 hC2 hB
      cases B with
      | none =>
        obtain ⟨rfl, _⟩ := HV.out
        go_wp2_with fail
        go_roundw
        case rel => exact ⟨k + 1, by omega, by go_num, ⟨by rw [HSN.out]; exact ⟨a2, c2, rfl, hc2, HC2.out⟩, fun t h => by rw [HSN.out] at h; cases h; exact HSM.out⟩, HB2⟩
        case measure => simp [intOf]; try omega
      | some t =>
        obtain ⟨⟨a3, c3, rfl, hc3, hC3⟩, hts⟩ := HV.out
        have HC3 := Aside0.mk (Kd.C_below hC3 hb2)
        have HTS := Aside0.mk (hts t rfl)
        have ht12 := memL_len t
        have hL := less_any (ints (memL s)) (ints (memL t)) (some a2) c2 (some a3) c3 w2 (by rw [ints_length]; omega) (by rw [ints_length]; omega) (by rw [ints_length]; exact HC2.out) (by rw [ints_length]; exact hc2) (by rw [ints_length]; exact HC3.out) (by rw [ints_length]; exact hc3)
        rw [ints_length, ints_length] at hL
        clear hC3 hts HV hb2
        cases hx : lessB (ints (memL s)) (ints (memL t)) with
        | true =>
          rw [hx] at hL
          have HL := Aside0.mk hL
          have HN : Aside0 (bestS (S.take (k + 1)) = some s) := ⟨by rw [HSN.out]; unfold pick; simp only [hx, if_true]⟩
          clear hL hx HSN
          go_wp2_with fail
          refine HL.out.mono ?_
          rintro e w4 ⟨rfl, hb4⟩
          have HB4 := Aside0.mk (below_then HB2.out HB2.out.size hb4)
          have HC4 := Aside0.mk (Kd.C_below HC2.out hb4)
          clear hb4
          go_wp2_with fail
          go_roundw
          case rel => exact ⟨k + 1, by omega, by go_num, ⟨by rw [HN.out]; exact ⟨a2, c2, rfl, hc2, HC4.out⟩, fun t h => by rw [HN.out] at h; cases h; exact HSM.out⟩, HB4⟩
          case measure => simp [intOf]; try omega
        | false =>
          rw [hx] at hL
          have HL := Aside0.mk hL
          have HN : Aside0 (bestS (S.take (k + 1)) = some t) := ⟨by rw [HSN.out]; unfold pick; simp only [hx]; rfl⟩
          clear hL hx HSN
          go_wp2_with fail
          refine HL.out.mono ?_
          rintro e w4 ⟨rfl, hb4⟩
          have HB4 := Aside0.mk (below_then HB2.out HB2.out.size hb4)
          have HC4 := Aside0.mk (Kd.C_below HC3.out hb4)
          clear hb4
          go_wp2_with fail
          go_roundw
          case rel => exact ⟨k + 1, by omega, by go_num, ⟨by rw [HN.out]; exact ⟨a3, c3, rfl, hc3, HC4.out⟩, fun t h => by rw [HN.out] at h; cases h; exact HTS.out⟩, HB4⟩
          case measure => simp [intOf]; try omega
    · obtain rfl : k = S.length := by omega
      rw [List.take_length] at HV
      go_wp2_with fail
      go_ret
      cases hB : bestS S with
      | none =>
        rw [hB] at HV
        obtain ⟨rfl, _⟩ := HV.out
        exact ⟨rfl, HB.out⟩
      | some t =>
        rw [hB] at HV
        obtain ⟨⟨a3, c3, rfl, hc3, hC3⟩, hts⟩ := HV.out
        exact ⟨a3, c3, by rw [ints_length]; rfl, by rw [ints_length]; exact hc3, by rw [ints_length]; exact hC3, HB.out⟩
end Go.Proofs.Ytmobefgnkiboaaa.Im
