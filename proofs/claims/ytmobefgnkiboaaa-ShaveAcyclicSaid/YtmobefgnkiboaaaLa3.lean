/- The law ShaveRanked. -/
import Derived.Test.YtmobefgnkiboaaaRf8
import Derived.Test.YtmobefgnkiboaaaLa1
namespace Go.Proofs.Ytmobefgnkiboaaa.Im
open Go.RowKit Go.Proofs.YtmobefgnkiboaaaW.PrintWords Go.Proofs.YtmobefgnkiboaaaW.PrintLast Go.Proofs.YtmobefgnkiboaaaW.PrintMore
set_option linter.unusedVariables false

theorem valid_any (n : Int) (A : Option Addr) (c : Nat) (l : List S43) (w : World) (hr : Kd.C k43 w A l.length l) (hc : l.length ≤ c) :
    Calls Try.prog 21 #[.int .i64 n, .slice A l.length c] w fun e w' => e = .returned (.bool (ofE n l == 0)) ∧ Below w.heap.size w w' := by
  have hg : Gives (fun k => pomadelaw02_valid.f k n l) (ofE n l == 0) := (Town_g n l).map fun k hk => by
    simp only [pomadelaw02_valid.f]
    rw [hk, Option.bind_some]
    by_cases he : ofE n l = 0
    · rw [if_pos he, he]
    · rw [if_neg he]
  obtain ⟨k0, hk0⟩ := hg
  exact pomadelaw02_valid.calls k0 n A c l _ w hr hc (hk0 k0 (Nat.le_refl _))
theorem isRanks_any (n : Int) (l : List S43) (rs : List Int) : ∃ B : Bool, (B = true ↔ isRk n l rs) ∧ ∀ (A : Option Addr) (c : Nat) (D : Option Addr) (d : Nat) (w : World), Kd.C k43 w A l.length l → l.length ≤ c → Kd.C (Kd.int .i64) w D rs.length rs → rs.length ≤ d →
    Calls Try.prog 25 #[.int .i64 n, .slice A l.length c, .slice D rs.length d] w fun e w' => e = .returned (.bool B) ∧ Below w.heap.size w w' := by
  obtain ⟨B, ⟨k0, hk0⟩, hB⟩ := IsRanks_g n l rs
  exact ⟨B, hB, fun A c D d w h1 h2 h3 h4 => pomaderef02_IsRanks.calls k0 n A c l D d rs B w h1 h2 h3 h4 (hk0 k0 (Nat.le_refl _))⟩
theorem less_any (xs ys : List Int) (A : Option Addr) (c : Nat) (D : Option Addr) (d : Nat) (w : World) (hx : xs.length < 1000000) (hy : ys.length < 1000000) (h1 : Kd.C (Kd.int .i64) w A xs.length xs) (h2 : xs.length ≤ c) (h3 : Kd.C (Kd.int .i64) w D ys.length ys) (h4 : ys.length ≤ d) :
    Calls Try.prog 36 #[.slice A xs.length c, .slice D ys.length d] w fun e w' => e = .returned (.bool (lessB xs ys)) ∧ Below w.heap.size w w' := by
  obtain ⟨k0, hk0⟩ := Less_g xs ys hx hy
  refine (pomaderef01_Less.calls k0 A c xs D d ys _ w h1 h2 h3 h4 (hk0 k0 (Nat.le_refl _))).mono fun e w' h => ?_
  first
    | exact h
    | exact ⟨h.1, h.2.below⟩
theorem zeroL_succ (k : Nat) (res : List Nat) : zeroL (k + 1) res = zeroL k res ++ (if res.getD k 0 == 0 then [k] else []) := by
  unfold zeroL
  rw [List.range_succ, List.filter_append, List.filter_cons, List.filter_nil]
theorem ranked_none {n : Int} {l : List S43} (he : ofE n l = 0) (h : rankF (townO l) n.toNat [] = none) (rs : List Int) : ¬ isRk n l rs := by
  rw [isRk_iff he]
  rintro ⟨ranks, rfl, hf⟩
  obtain ⟨s, hs, _⟩ := rankF_least (okt_of he) n.toNat [] ranks hf (by simp)
  rw [h] at hs
  cases hs
theorem ranked_some {n : Int} {l : List S43} (he : ofE n l = 0) {res : List Nat} (h : rankF (townO l) n.toNat [] = some res) : fullRk n.toNat (townO l) res :=
  rankF_full (okt_of he) n.toNat [] res (by simp) (by simp) h
theorem ranked_less {n : Int} {l : List S43} (he : ofE n l = 0) {res : List Nat} (h : rankF (townO l) n.toNat [] = some res) {rs : List Int} (hr : isRk n l rs) : lessB rs (ints res) = false := by
  rw [isRk_iff he] at hr
  obtain ⟨ranks, rfl, hf⟩ := hr
  obtain ⟨s, hs, h2⟩ := rankF_least (okt_of he) n.toNat [] ranks hf (by simp)
  rw [h, List.nil_append] at hs
  cases hs
  exact h2

set_option maxHeartbeats 3200000 in
set_option maxRecDepth 100000 in
theorem law9_any (n : Int) (A : Option Addr) (c : Nat) (l : List S43) (D : Option Addr) (d : Nat) (oth : List Int) (w : World) (hr : Kd.C k43 w A l.length l) (hc : l.length ≤ c) (hr2 : Kd.C (Kd.int .i64) w D oth.length oth) (hd : oth.length ≤ d) :
    Calls Try.prog 9 #[.int .i64 n, .slice A l.length c, .slice D oth.length d] w fun e w' => e = .returned (.bool true) ∧ Below w.heap.size w w' := by
  have HF := Aside0.mk (few_any A D c d l oth w hr hc hr2 hd)
  have HR := Aside0.mk hr
  have HD := Aside0.mk hr2
  have HV := Aside0.mk (fun w h => valid_any n A c l w h hc)
  clear hr hr2
  cases hf : (decide (l.length ≤ 150) && decide (oth.length ≤ 50)) with
  | false =>
    rw [hf] at HF
    clear hf
    go_enter Try.func9, Try.ntmps9
    go_wp2_with fail
    refine HF.out.mono ?_
    rintro e w1 ⟨rfl, hb1⟩
    have HB1 := Aside0.mk hb1
    clear hb1
    go_wp2_with fail
    refine (alive_any _).mono ?_
    rintro e w2 ⟨rfl, hb2⟩
    have HB2 := Aside0.mk (below_then HB1.out HB1.out.size hb2)
    clear hb2
    go_wp2_with fail
    go_ret
    exact ⟨rfl, HB2.out⟩
  | true =>
    rw [hf] at HF
    rw [Bool.and_eq_true, decide_eq_true_eq, decide_eq_true_eq] at hf
    by_cases he : ofE n l = 0
    · have hev : (ofE n l == 0) = true := beq_iff_eq.2 he
      rw [hev] at HV
      have hN : RanksPost n l = fun w => FoundE w (rankF (townO l) n.toNat []) := by funext w e w'; simp [RanksPost, he]
      have HP := Aside0.mk (fun w h => Ranks_any n A c l w h hc)
      rw [hN] at HP
      have HNo := Aside0.mk (fun h rs => ranked_none (n := n) (l := l) he h rs)
      have HSome := Aside0.mk (fun res h => ranked_some (n := n) (l := l) (res := res) he h)
      have HLess := Aside0.mk (fun res h rs hr => ranked_less (n := n) (l := l) (res := res) he h (rs := rs) hr)
      have HIs := Aside0.mk (fun (rs : List Int) (B : Option Addr) (d : Nat) (w : World) h1 h2 h3 h4 => Is_any n A c l B d rs w h1 hc h2 h3 h4)
      have hI : ∀ rs, IsPost n l rs = fun w e w' => e = .returned (.tuple #[.bool (isB n.toNat (townO l) rs), .int .i64 0]) ∧ Below w.heap.size w w' := fun rs => by funext w e w'; simp [IsPost, he]
      simp only [hI] at HIs
      have HK := Aside0.mk (okt_of he)
      have hnn := (ofE_ok he).1
      have HRf := Aside0.mk (fun rs => isRanks_any n l rs)
      have HRk := Aside0.mk (fun (rs : List Int) => isRk_iff he rs)
      clear he hev hN hI
      obtain ⟨m, rfl⟩ : ∃ m : Nat, n = m := ⟨n.toNat, by omega⟩
      rw [Int.toNat_natCast] at *
      generalize townO l = o at *
      obtain ⟨R, hR⟩ : ∃ R, rankF o m [] = R := ⟨_, rfl⟩
      rw [hR] at HP HNo HSome HLess
      clear hR
      cases R with
      | none =>
        obtain ⟨B, hB, hBc⟩ := HRf.out oth
        have hB0 : B = false := by
          cases B
          · rfl
          · exact absurd (hB.1 rfl) (HNo.out rfl oth)
        subst hB0
        have HBc := Aside0.mk (fun w h h2 => hBc A c D d w h hc h2 hd)
        clear hB hBc HNo HSome HLess HRf HRk HIs
        go_enter Try.func9, Try.ntmps9
        go_wp2_with fail
        refine HF.out.mono ?_
        rintro e w1 ⟨rfl, hb1⟩
        have HB1 := Aside0.mk hb1
        have HR1 := Aside0.mk (Kd.C_below HR.out hb1)
        have HD1 := Aside0.mk (Kd.C_below HD.out hb1)
        clear hb1
        go_wp2_with fail
        refine (HV.out _ HR1.out).mono ?_
        rintro e w2 ⟨rfl, hb2⟩
        have HB2 := Aside0.mk (below_then HB1.out HB1.out.size hb2)
        have HR2 := Aside0.mk (Kd.C_below HR1.out hb2)
        have HD2 := Aside0.mk (Kd.C_below HD1.out hb2)
        clear hb2
        go_wp2_with fail
        refine (HP.out _ HR2.out).mono ?_
        rintro e w3 ⟨rfl, hb3⟩
        have HB3 := Aside0.mk (below_then HB2.out HB2.out.size hb3)
        have HR3 := Aside0.mk (Kd.C_below HR2.out hb3)
        have HD3 := Aside0.mk (Kd.C_below HD2.out hb3)
        clear hb3
        go_wp2_with fail
        refine (HBc.out _ HR3.out HD3.out).mono ?_
        rintro e w4 ⟨rfl, hb4⟩
        have HB4 := Aside0.mk (below_then HB3.out HB3.out.size hb4)
        clear hb4
        go_wp2_with fail
        refine (alive_any _).mono ?_
        rintro e w5 ⟨rfl, hb5⟩
        have HB5 := Aside0.mk (below_then HB4.out HB4.out.size hb5)
        clear hb5
        go_wp2_with fail
        go_ret
        exact ⟨rfl, HB5.out⟩
      | some res =>
        have hF := HSome.out res rfl
        obtain ⟨B2, hB2, hBc2⟩ := HRf.out (ints res)
        obtain rfl : B2 = true := hB2.2 ((HRk.out (ints res)).2 ⟨res, rfl, hF⟩)
        have HZ := Aside0.mk (zero_ker HK.out hF)
        have hrl : (ints res).length = m := by rw [ints_length]; exact hF.1
        have hrl2 : res.length = m := hF.1
        have n12 := HK.out.n12
        obtain ⟨B, hB, hBc⟩ := HRf.out oth
        have HLs : Aside0 (B = true → lessB oth (ints res) = false) := ⟨fun h => HLess.out res rfl oth (hB.1 h)⟩
        have HBc := Aside0.mk (fun w h h2 => hBc A c D d w h hc h2 hd)
        have HBc2 := Aside0.mk (fun A' c' w h h2 h3 => hBc2 A c A' c' w h hc h2 h3)
        rw [hrl] at HBc2
        have HLe := Aside0.mk (fun A' c' w h1 h3 h4 => less_any oth (ints res) D d A' c' w (by omega) (by omega) h1 hd h3 h4)
        rw [hrl] at HLe
        clear hB hBc hB2 hBc2 HNo HSome HLess HRf HRk hF
        cases B with
        | false =>
          clear HLs
          go_enter Try.func9, Try.ntmps9
          go_wp2_with fail
          refine HF.out.mono ?_
          rintro e w1 ⟨rfl, hb1⟩
          have HB1 := Aside0.mk hb1
          have HR1 := Aside0.mk (Kd.C_below HR.out hb1)
          have HD1 := Aside0.mk (Kd.C_below HD.out hb1)
          clear hb1
          go_wp2_with fail
          refine (HV.out _ HR1.out).mono ?_
          rintro e w2 ⟨rfl, hb2⟩
          have HB2 := Aside0.mk (below_then HB1.out HB1.out.size hb2)
          have HR2 := Aside0.mk (Kd.C_below HR1.out hb2)
          have HD2 := Aside0.mk (Kd.C_below HD1.out hb2)
          clear hb2
          go_wp2_with fail
          refine (HP.out _ HR2.out).mono ?_
          rintro e w3 ⟨A3, c3, rfl, hc3, hC3, hb3⟩
          have HB3 := Aside0.mk (below_then HB2.out HB2.out.size hb3)
          have HR3 := Aside0.mk (Kd.C_below HR2.out hb3)
          have HD3 := Aside0.mk (Kd.C_below HD2.out hb3)
          rw [hrl] at hc3 hC3 ⊢
          have HC3 := Aside0.mk hC3
          clear hb3 hC3
          go_wp2_with fail
          refine (HBc2.out _ _ _ HR3.out HC3.out hc3).mono ?_
          rintro e w4 ⟨rfl, hb4⟩
          have HB4 := Aside0.mk (below_then HB3.out HB3.out.size hb4)
          have HR4 := Aside0.mk (Kd.C_below HR3.out hb4)
          have HD4 := Aside0.mk (Kd.C_below HD3.out hb4)
          have HC4 := Aside0.mk (Kd.C_below HC3.out hb4)
          clear hb4
          go_wp2_with fail
          refine (HBc.out _ HR4.out HD4.out).mono ?_
          rintro e W ⟨rfl, hb5⟩
          have HBW := Aside0.mk (below_then HB4.out HB4.out.size hb5)
          have HR5 := Aside0.mk (Kd.C_below HR4.out hb5)
          have HD5 := Aside0.mk (Kd.C_below HD4.out hb5)
          have HC5 := Aside0.mk (Kd.C_below HC4.out hb5)
          clear hb5 HB4 HR4 HD4 HC4 HB3 HR3 HD3 HC3 HB2 HR2 HD2 HB1 HR1 HD1
          go_wp2_with fail
          go_loopw [9, 10] (fun vz v wr => ∃ k : Nat, k ≤ m ∧ v = .int .i64 (k : Int) ∧ Aside0 (Kd.R (Kd.int .i64) 3 wr W.heap.size (fun _ => True) vz (ints (zeroL k res))) ∧ Aside0 (Below W.heap.size W wr)) (fun _ v _ => m - (intOf v).toNat)
          case atStart => exact ⟨0, Nat.zero_le _, rfl, ⟨Kd.R_nil (Kd.int .i64) 3 _ _ _⟩, ⟨Below.refl _ _⟩⟩
          case round =>
            obtain ⟨k, hk, rfl, HRz, HBz⟩ := hrel
            by_cases hkl : k < m
            · have HCr := Aside0.mk (Kd.C_below HC5.out HBz.out)
              obtain ⟨ad, e0, cx⟩ := Kd.at_int HCr.out (k : Int) (by omega) (by omega)
              cases e0
              rw [rd_ints, Int.toNat_natCast] at cx
              have hzl : (zeroL k res).length ≤ k := by have := List.length_filter_le (fun i => res.getD i 0 == 0) (List.range k); simpa [zeroL] using this
              have hsn : zeroL (k + 1) res = zeroL k res ++ (if res.getD k 0 == 0 then [k] else []) := zeroL_succ k res
              have hil : (ints (zeroL k res)).length ≤ k := by rw [ints_length]; exact hzl
              by_cases hz : res.getD k 0 = 0
              · rw [if_pos (beq_iff_eq.2 hz)] at hsn
                have HSN : Aside0 (ints (zeroL (k + 1) res) = ints (zeroL k res) ++ [(k : Int)]) := ⟨by rw [hsn]; simp [ints]⟩
                rw [hz] at cx
                clear hsn hz
                generalize ints (zeroL k res) = L at *
                go_wp2_with (first | ((with_reducible refine gate_builtin (b := .append) (xs := #[.tmp 75, .tmp 77]) rfl ?_); at_builtin; refine Kd.R_append (Kd.int .i64) (w0 := W) W.heap.size rfl (.tmp 75) (.tmp 77) 25 3 (.int .i64 0) 8 rfl Try.underlying25 info3 rfl (by decide) (by omega) u9 L k [.int .i64 k] (fun _ => True) (fun _ => False) rfl rfl rfl (fun _ hk => hk.elim) (fun _ _ => trivial) HRz.out HBz.out HBz.out.size (by omega) ?_; intro v9 w9 ho hb hg hat; have HO9 := Aside0.mk ho; have HB9 := Aside0.mk hb; clear ho hb hg hat))
                go_roundw
                case rel => exact ⟨k + 1, by omega, by go_num, ⟨by rw [HSN.out]; exact HO9.out⟩, HB9⟩
                case measure => simp [intOf]; try omega
              · rw [if_neg (by rw [beq_iff_eq]; exact hz)] at hsn
                have HSN : Aside0 (zeroL (k + 1) res = zeroL k res) := ⟨by rw [hsn]; simp⟩
                have hz' : (((res.getD k 0 : Nat) : Int) == 0) = false := beq_eq_false_iff_ne.2 (by omega)
                clear hsn hz
                generalize res.getD k 0 = rk at *
                go_wp2_with fail
                go_roundw
                case rel => exact ⟨k + 1, by omega, by go_num, ⟨by rw [HSN.out]; exact HRz.out⟩, HBz⟩
                case measure => simp [intOf]; try omega
            · obtain rfl : k = m := by omega
              obtain ⟨A9, c9, rfl, hl9, hC9⟩ := Kd.R_reads HRz.out
              have hzl : (zeroL k res).length ≤ k := by have := List.length_filter_le (fun i => res.getD i 0 == 0) (List.range k); simpa [zeroL] using this
              have hI := HIs.out (ints (zeroL k res)) A9 c9 wr (Kd.C_below HR5.out HBz.out) hC9 hl9 (by rw [ints_length]; omega)
              rw [HZ.out] at hI
              have HI := Aside0.mk hI
              have HBr := Aside0.mk (below_then HBW.out HBW.out.size HBz.out)
              clear hI hC9 hl9 hzl
              go_wp2_with fail
              refine HI.out.mono ?_
              rintro e w7 ⟨rfl, hb7⟩
              have HB7 := Aside0.mk (below_then HBr.out HBr.out.size hb7)
              clear hb7
              go_wp2_with fail
              refine (alive_any _).mono ?_
              rintro e w8 ⟨rfl, hb8⟩
              have HB8 := Aside0.mk (below_then HB7.out HB7.out.size hb8)
              clear hb8
              go_wp2_with fail
              go_ret
              exact ⟨rfl, HB8.out⟩
        | true =>
          have hls := HLs.out rfl
          clear HLs
          go_enter Try.func9, Try.ntmps9
          go_wp2_with fail
          refine HF.out.mono ?_
          rintro e w1 ⟨rfl, hb1⟩
          have HB1 := Aside0.mk hb1
          have HR1 := Aside0.mk (Kd.C_below HR.out hb1)
          have HD1 := Aside0.mk (Kd.C_below HD.out hb1)
          clear hb1
          go_wp2_with fail
          refine (HV.out _ HR1.out).mono ?_
          rintro e w2 ⟨rfl, hb2⟩
          have HB2 := Aside0.mk (below_then HB1.out HB1.out.size hb2)
          have HR2 := Aside0.mk (Kd.C_below HR1.out hb2)
          have HD2 := Aside0.mk (Kd.C_below HD1.out hb2)
          clear hb2
          go_wp2_with fail
          refine (HP.out _ HR2.out).mono ?_
          rintro e w3 ⟨A3, c3, rfl, hc3, hC3, hb3⟩
          have HB3 := Aside0.mk (below_then HB2.out HB2.out.size hb3)
          have HR3 := Aside0.mk (Kd.C_below HR2.out hb3)
          have HD3 := Aside0.mk (Kd.C_below HD2.out hb3)
          rw [hrl] at hc3 hC3 ⊢
          have HC3 := Aside0.mk hC3
          clear hb3 hC3
          go_wp2_with fail
          refine (HBc2.out _ _ _ HR3.out HC3.out hc3).mono ?_
          rintro e w4 ⟨rfl, hb4⟩
          have HB4 := Aside0.mk (below_then HB3.out HB3.out.size hb4)
          have HR4 := Aside0.mk (Kd.C_below HR3.out hb4)
          have HD4 := Aside0.mk (Kd.C_below HD3.out hb4)
          have HC4 := Aside0.mk (Kd.C_below HC3.out hb4)
          clear hb4
          go_wp2_with fail
          refine (HBc.out _ HR4.out HD4.out).mono ?_
          rintro e W ⟨rfl, hb5⟩
          have HBW := Aside0.mk (below_then HB4.out HB4.out.size hb5)
          have HR5 := Aside0.mk (Kd.C_below HR4.out hb5)
          have HD5 := Aside0.mk (Kd.C_below HD4.out hb5)
          have HC5 := Aside0.mk (Kd.C_below HC4.out hb5)
          clear hb5 HB4 HR4 HD4 HC4 HB3 HR3 HD3 HC3 HB2 HR2 HD2 HB1 HR1 HD1
          go_wp2_with fail
          refine (HLe.out _ _ _ HD5.out HC5.out hc3).mono ?_
          rw [hls]
          rintro e W6 ⟨rfl, hb6⟩
          have HBW6 := Aside0.mk (below_then HBW.out HBW.out.size hb6)
          have HR6 := Aside0.mk (Kd.C_below HR5.out hb6)
          have HC6 := Aside0.mk (Kd.C_below HC5.out hb6)
          clear hb6 HBW HR5 HD5 HC5
          have HBW := HBW6
          have HR5 := HR6
          have HC5 := HC6
          clear HBW6 HR6 HC6
          generalize W6 = W at *
          go_wp2_with fail
          go_loopw [9, 10] (fun vz v wr => ∃ k : Nat, k ≤ m ∧ v = .int .i64 (k : Int) ∧ Aside0 (Kd.R (Kd.int .i64) 3 wr W.heap.size (fun _ => True) vz (ints (zeroL k res))) ∧ Aside0 (Below W.heap.size W wr)) (fun _ v _ => m - (intOf v).toNat)
          case atStart => exact ⟨0, Nat.zero_le _, rfl, ⟨Kd.R_nil (Kd.int .i64) 3 _ _ _⟩, ⟨Below.refl _ _⟩⟩
          case round =>
            obtain ⟨k, hk, rfl, HRz, HBz⟩ := hrel
            by_cases hkl : k < m
            · have HCr := Aside0.mk (Kd.C_below HC5.out HBz.out)
              obtain ⟨ad, e0, cx⟩ := Kd.at_int HCr.out (k : Int) (by omega) (by omega)
              cases e0
              rw [rd_ints, Int.toNat_natCast] at cx
              have hzl : (zeroL k res).length ≤ k := by have := List.length_filter_le (fun i => res.getD i 0 == 0) (List.range k); simpa [zeroL] using this
              have hsn : zeroL (k + 1) res = zeroL k res ++ (if res.getD k 0 == 0 then [k] else []) := zeroL_succ k res
              have hil : (ints (zeroL k res)).length ≤ k := by rw [ints_length]; exact hzl
              by_cases hz : res.getD k 0 = 0
              · rw [if_pos (beq_iff_eq.2 hz)] at hsn
                have HSN : Aside0 (ints (zeroL (k + 1) res) = ints (zeroL k res) ++ [(k : Int)]) := ⟨by rw [hsn]; simp [ints]⟩
                rw [hz] at cx
                clear hsn hz
                generalize ints (zeroL k res) = L at *
                go_wp2_with (first | ((with_reducible refine gate_builtin (b := .append) (xs := #[.tmp 75, .tmp 77]) rfl ?_); at_builtin; refine Kd.R_append (Kd.int .i64) (w0 := W) W.heap.size rfl (.tmp 75) (.tmp 77) 25 3 (.int .i64 0) 8 rfl Try.underlying25 info3 rfl (by decide) (by omega) u9 L k [.int .i64 k] (fun _ => True) (fun _ => False) rfl rfl rfl (fun _ hk => hk.elim) (fun _ _ => trivial) HRz.out HBz.out HBz.out.size (by omega) ?_; intro v9 w9 ho hb hg hat; have HO9 := Aside0.mk ho; have HB9 := Aside0.mk hb; clear ho hb hg hat))
                go_roundw
                case rel => exact ⟨k + 1, by omega, by go_num, ⟨by rw [HSN.out]; exact HO9.out⟩, HB9⟩
                case measure => simp [intOf]; try omega
              · rw [if_neg (by rw [beq_iff_eq]; exact hz)] at hsn
                have HSN : Aside0 (zeroL (k + 1) res = zeroL k res) := ⟨by rw [hsn]; simp⟩
                have hz' : (((res.getD k 0 : Nat) : Int) == 0) = false := beq_eq_false_iff_ne.2 (by omega)
                clear hsn hz
                generalize res.getD k 0 = rk at *
                go_wp2_with fail
                go_roundw
                case rel => exact ⟨k + 1, by omega, by go_num, ⟨by rw [HSN.out]; exact HRz.out⟩, HBz⟩
                case measure => simp [intOf]; try omega
            · obtain rfl : k = m := by omega
              obtain ⟨A9, c9, rfl, hl9, hC9⟩ := Kd.R_reads HRz.out
              have hzl : (zeroL k res).length ≤ k := by have := List.length_filter_le (fun i => res.getD i 0 == 0) (List.range k); simpa [zeroL] using this
              have hI := HIs.out (ints (zeroL k res)) A9 c9 wr (Kd.C_below HR5.out HBz.out) hC9 hl9 (by rw [ints_length]; omega)
              rw [HZ.out] at hI
              have HI := Aside0.mk hI
              have HBr := Aside0.mk (below_then HBW.out HBW.out.size HBz.out)
              clear hI hC9 hl9 hzl
              go_wp2_with fail
              refine HI.out.mono ?_
              rintro e w7 ⟨rfl, hb7⟩
              have HB7 := Aside0.mk (below_then HBr.out HBr.out.size hb7)
              clear hb7
              go_wp2_with fail
              refine (alive_any _).mono ?_
              rintro e w8 ⟨rfl, hb8⟩
              have HB8 := Aside0.mk (below_then HB7.out HB7.out.size hb8)
              clear hb8
              go_wp2_with fail
              go_ret
              exact ⟨rfl, HB8.out⟩
    · have hev : (ofE n l == 0) = false := beq_eq_false_iff_ne.2 he
      rw [hev] at HV
      clear hev he
      go_enter Try.func9, Try.ntmps9
      go_wp2_with fail
      refine HF.out.mono ?_
      rintro e w1 ⟨rfl, hb1⟩
      have HB1 := Aside0.mk hb1
      have HR1 := Aside0.mk (Kd.C_below HR.out hb1)
      clear hb1
      go_wp2_with fail
      refine (HV.out _ HR1.out).mono ?_
      rintro e w2 ⟨rfl, hb2⟩
      have HB2 := Aside0.mk (below_then HB1.out HB1.out.size hb2)
      clear hb2
      go_wp2_with fail
      refine (alive_any _).mono ?_
      rintro e w5 ⟨rfl, hb5⟩
      have HB5 := Aside0.mk (below_then HB2.out HB2.out.size hb5)
      clear hb5
      go_wp2_with fail
      go_ret
      exact ⟨rfl, HB5.out⟩
end Go.Proofs.Ytmobefgnkiboaaa.Im
