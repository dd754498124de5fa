/- Further parts of the same walk: contracts of the functions that the law reaches, each under the conditions that it states. -/
import Derived.Test.YtmobefgnkiboaaaDoorC3G
import Derived.Deep.SlicePairs
namespace Go.Proofs.YtmobefgnkiboaaaDoor.Im
open Go.RowKit Go.ChangeShapes Go.WideShapes Go.Proofs.YtmobefgnkiboaaaDoorW.PrintWords Go.Proofs.YtmobefgnkiboaaaDoorW.PrintLast Go.Proofs.YtmobefgnkiboaaaDoorW.PrintMore
abbrev k43 := Sh.k43
theorem open_arcs {H : Type} {enc : TypeId × Value → H} {w : World} {base : Nat} {spare : Nat → Bool} {held : Bool} {fuel : Nat} {a : Option Addr} {len cap : Nat} {x : DataW H × List MemPlace}
    (h : DataW.trod enc Tryd.prog w base spare held fuel 22 [.slice a len cap] = some x) :
    ∃ l : List Sh.S43, len = l.length ∧ Kd.C k43 w a l.length l ∧ l.length ≤ cap := by
  rcases Go.Deep.open_slice_pairs Tryd.underlying22 Tryd.underlying64 (by kernel_rfl) rfl rfl (by kernel_rfl) (by kernel_rfl) h with ⟨hcs, _⟩ | ⟨b, len', cap', m, n, V0, V1, D0, D1, P0, P1, hcs, hb, hl, hm, hmm, hx, hi⟩
  · simp at hcs
    obtain ⟨rfl, rfl, rfl⟩ := hcs
    exact ⟨[], rfl, ⟨rfl, by simp, fun h => absurd h (by simp)⟩, Nat.le_refl _⟩
  · simp at hcs
    obtain ⟨rfl, rfl, rfl⟩ := hcs
    have hlm : len ≤ m := by rw [hmm]; split <;> omega
    have hint : ∀ i, i < m → ∃ p q : Int, V0 i = .int .i64 p ∧ V1 i = .int .i64 q := fun i him => by
      obtain ⟨_, _, t0, t1⟩ := hi i him
      obtain ⟨p, hp, _⟩ := DataW.trod_int Tryd.underlying3 t0
      obtain ⟨q, hq, _⟩ := DataW.trod_int Tryd.underlying3 t1
      exact ⟨p, q, by simpa using hp, by simpa using hq⟩
    let g : Nat → Sh.S43 := fun i => ⟨match V0 i with | .int _ p => p | _ => 0, match V1 i with | .int _ q => q | _ => 0⟩
    have hg0 : ∀ i, i < m → V0 i = .int .i64 (g i).f0 := fun i him => by
      obtain ⟨p, q, hp, hq⟩ := hint i him
      simp [g, hp]
    have hg1 : ∀ i, i < m → V1 i = .int .i64 (g i).f1 := fun i him => by
      obtain ⟨p, q, hp, hq⟩ := hint i him
      simp [g, hq]
    refine ⟨(List.range len).map g, by simp, ?_, by simpa using hl⟩
    have hll : ((List.range len).map g).length = len := by simp
    rw [hll]
    refine ⟨hll, by unfold maxLen at hm; omega, fun _ => ⟨b, rfl, fun j p hp => ?_⟩⟩
    have hj : j < len := by
      rcases Nat.lt_or_ge j len with h' | h'
      · exact h'
      · rw [List.getElem?_eq_none (by rw [hll]; exact h')] at hp; cases hp
    have hp' : p = g j := by
      rw [List.getElem?_map, List.getElem?_range hj] at hp
      simpa using hp.symm
    subst hp'
    refine ⟨_, rfl, Sh.k43_mk w (g j), fun i u hu => ?_⟩
    obtain ⟨c0, c1, _, _⟩ := hi j (by omega)
    rw [hg0 j (by omega)] at c0
    rw [hg1 j (by omega)] at c1
    match i, hu with
    | 0, hu => simp at hu; subst hu; exact c0
    | 1, hu => simp at hu; subst hu; exact c1
theorem open_nums {H : Type} {enc : TypeId × Value → H} {w : World} {base : Nat} {spare : Nat → Bool} {held : Bool} {fuel : Nat} {a : Option Addr} {len cap : Nat} {x : DataW H × List MemPlace}
    (h : DataW.trod enc Tryd.prog w base spare held fuel 23 [.slice a len cap] = some x) :
    ∃ l : List Int, len = l.length ∧ Kd.C (Kd.int .i64) w a l.length l ∧ l.length ≤ cap := by
  rcases open_ints Tryd.underlying23 Tryd.underlying3 (by kernel_rfl) h with ⟨hcs, _⟩ | ⟨b, len', cap', zs, hcs, hb, hl, hm, hz, hx, hcell, hwz⟩
  · simp at hcs
    obtain ⟨rfl, rfl, rfl⟩ := hcs
    exact ⟨[], rfl, ⟨rfl, by simp, fun h => absurd h (by simp)⟩, Nat.le_refl _⟩
  · simp at hcs
    obtain ⟨rfl, rfl, rfl⟩ := hcs
    have hlz : len ≤ zs.length := by rw [hz]; split <;> omega
    have hll : (zs.take len).length = len := by rw [List.length_take]; omega
    refine ⟨zs.take len, hll.symm, ?_, by rw [hll]; exact hl⟩
    rw [hll]
    refine ⟨hll, by unfold maxLen at hm; omega, fun _ => ⟨b, rfl, fun j p hp => ?_⟩⟩
    have hj : j < len := by
      rcases Nat.lt_or_ge j len with h' | h'
      · exact h'
      · rw [List.getElem?_eq_none (by rw [hll]; exact h')] at hp; cases hp
    have hp' : p = zs.getD j 0 := by
      rw [List.getElem?_take_of_lt hj] at hp
      rw [List.getD_eq_getElem?_getD, hp]; rfl
    subst hp'
    refine ⟨_, rfl, rfl, fun i u hu => ?_⟩
    match i, hu with
    | 0, hu =>
      simp at hu; subst hu
      have := hcell j (by omega)
      rw [Nat.add_zero, show j * (Kd.int IntKind.i64).sz = j from Nat.mul_one j]
      exact this
end Go.Proofs.YtmobefgnkiboaaaDoor.Im

namespace Go.Proofs.YtmobefgnkiboaaaDoor.Im
open Go.RowKit Go.Proofs.YtmobefgnkiboaaaDoorW.PrintWords Go.Proofs.YtmobefgnkiboaaaDoorW.PrintLast Go.Proofs.YtmobefgnkiboaaaDoorW.PrintMore Go.Proofs.YtmobefgnkiboaaaDoor.Tr
set_option linter.unusedVariables false
theorem set_call (n : Nat) (hn : n ≤ 12) (B : Option Addr) (d : Nat) (xs : List Int) (w : World) (hr : Kd.C (Kd.int .i64) w B xs.length xs) (hd : xs.length ≤ d) (hx : xs.length < 1000000) :
    Calls Tryd.prog 10 #[.int .i64 n, .slice B xs.length d] w fun e w' => e = .returned (.tuple #[.int .i64 (if Sh.AscTo n xs xs.length then (Sh.setOf xs : Nat) else (0 : Int)), .bool (decide (Sh.AscTo n xs xs.length))]) ∧ Below w.heap.size w w' := by
  obtain ⟨k0, hk0⟩ := Sh.Set_g n xs hn hx
  refine (Sh.pomaderef02_Set.calls k0 n B d xs (if Sh.AscTo n xs xs.length then (Sh.setOf xs : Nat) else (0 : Int)) (decide (Sh.AscTo n xs xs.length)) w hr hd ?_).mono fun e w' h => ⟨h.1, h.2.below⟩
  refine (hk0 k0 (Nat.le_refl _)).trans ?_
  by_cases h : Sh.AscTo n xs xs.length
  · rw [if_pos h, if_pos h, decide_eq_true h]
  · rw [if_neg h, if_neg h, decide_eq_false h]
theorem sent_good {n : Nat} {l : List Sh.S43} (he : Sh.ofE n l = 0) (h10 : ¬ (10 : Int) < n) {L : List ByteArray} (hs : Sh.sentAll n (Sh.townO l) = some L) (A : Option Addr) (c : Nat) (w : World) (hr : Kd.C k43 w A l.length l) (hc : l.length ≤ c) :
    Calls Tryd.prog 7 #[.int .i64 n, .slice A l.length c] w fun e w' => ∃ A' c', e = .returned (.tuple #[.slice A' n c', .int .i64 0]) ∧ Kd.C Kd.string w' A' n ((sentL n (Sh.townO l)).map strL) ∧ Below w.heap.size w w' :=
  (Sh.Sentences_any n A c l w hr hc).mono fun e w' h => by
    unfold Sh.SentPost at h
    rw [if_pos he, if_neg h10, Int.toNat_natCast, hs] at h
    obtain ⟨v, h1, h2, h3⟩ := h
    obtain ⟨A', c', rfl, hl, hC⟩ := Kd.R_reads h2
    rw [(sent_all hs).1] at h1 hl hC
    rw [List.length_map, sentL_len] at h1 hl hC
    exact ⟨A', c', h1, hC, h3⟩
theorem sent_none {n : Int} {l : List Sh.S43} (he : Sh.ofE n l = 0) (hs : (if 10 < n then none else Sh.sentAll n.toNat (Sh.townO l)) = none) (A : Option Addr) (c : Nat) (w : World) (hr : Kd.C k43 w A l.length l) (hc : l.length ≤ c) :
    Calls Tryd.prog 7 #[.int .i64 n, .slice A l.length c] w fun e w' => e = .returned (.tuple #[.slice none 0 0, .int .i64 8]) ∧ Below w.heap.size w w' :=
  (Sh.Sentences_any n A c l w hr hc).mono fun e w' h => by
    unfold Sh.SentPost at h
    rw [if_pos he, hs] at h
    exact h
theorem bitV_snoc (m i : Nat) : bitV (i + 1) m.testBit = bitV i m.testBit ++ [some (m.testBit i)] := by
  unfold bitV
  rw [List.range_succ, List.map_append]
  rfl
theorem str01 : (strV [some false] : ByteArray) = ⟨#[48]⟩ ∧ (strV [some true] : ByteArray) = ⟨#[49]⟩ := ⟨rfl, rfl⟩
theorem str_snoc (v : List T3) (c : T3) : strV v ++ strV [c] = strV (v ++ [c]) := strV_snoc v c
theorem bit_tmod (s i : Nat) : Int.tmod ((s : Int) / 2 ^ i) 2 = if s.testBit i then 1 else 0 := by
  rw [shr_nat]
  have e := bit_one s i
  rw [Nat.and_comm, Nat.one_and_eq_mod_two] at e
  have : Int.tmod ((s >>> i : Nat) : Int) 2 = (((s >>> i) % 2 : Nat) : Int) := by
    rw [Int.tmod_eq_emod_of_nonneg (Int.natCast_nonneg _)]; rfl
  rw [this, e]
  split <;> rfl
set_option maxHeartbeats 3200000 in
set_option maxRecDepth 100000 in
theorem lawS_any (n : Int) (A : Option Addr) (c : Nat) (l : List Sh.S43) (B : Option Addr) (d : Nat) (xs : List Int) (w : World) (hr : Kd.C k43 w A l.length l) (hc : l.length ≤ c) (hr2 : Kd.C (Kd.int .i64) w B xs.length xs) (hd : xs.length ≤ d) :
    Calls Tryd.prog 3 #[.int .i64 n, .slice A l.length c, .slice B xs.length d] w fun e w' => e = .returned (.bool true) ∧ Below w.heap.size w w' := by
  have HF := Aside0.mk (Sh.few_any A B c d l xs w hr hc hr2 hd)
  have HR := Aside0.mk hr
  have HQ := Aside0.mk hr2
  have HV := Aside0.mk (fun w h => Sh.valid_any n A c l w h hc)
  have HL := Aside0.mk (fun w => Sh.alive_any w)
  clear hr hr2
  cases hf : (decide (l.length ≤ 150) && decide (xs.length ≤ 50)) with
  | false =>
    rw [hf] at HF
    clear hf
    go_enter Tryd.func3, Tryd.ntmps3
    go_wp2_with fail
    refine HF.out.mono ?_
    rintro e w1 ⟨rfl, hb1⟩
    have HB1 := Aside0.mk hb1
    clear hb1
    go_wp2_with fail
    refine (HL.out _).mono ?_
    rintro e wz ⟨rfl, hbz⟩
    have HBz := Aside0.mk (below_then HB1.out HB1.out.size hbz)
    clear hbz
    go_wp2_with fail
    go_ret
    exact ⟨rfl, HBz.out⟩
  | true =>
    rw [hf] at HF
    have hx50 : xs.length ≤ 50 := by
      rw [Bool.and_eq_true, decide_eq_true_eq, decide_eq_true_eq] at hf; exact hf.2
    clear hf
    by_cases he : Sh.ofE n l = 0
    · have hev : (Sh.ofE n l == 0) = true := beq_iff_eq.2 he
      rw [hev] at HV
      have hnn := (Sh.ofE_ok he).1
      have n12 := (Sh.okt_of he).n12
      obtain ⟨m, rfl⟩ : ∃ m : Nat, n = m := ⟨n.toNat, by omega⟩
      rw [Int.toNat_natCast] at *
      cases hso : (if (10 : Int) < m then none else Sh.sentAll (m : Int).toNat (Sh.townO l)) with
      | none =>
        have HS := Aside0.mk (fun w h => sent_none he hso A c w h hc)
        clear hev he hso hnn
        go_enter Tryd.func3, Tryd.ntmps3
        go_wp2_with fail
        refine HF.out.mono ?_
        rintro e w1 ⟨rfl, hb1⟩
        have HB1 := Aside0.mk hb1
        have HR1 := Aside0.mk (Kd.C_below HR.out hb1)
        clear hb1
        go_wp2_with fail
        refine (HV.out _ HR1.out).mono ?_
        rintro e w2 ⟨rfl, hb2⟩
        have HB2 := Aside0.mk (below_then HB1.out HB1.out.size hb2)
        have HR2 := Aside0.mk (Kd.C_below HR1.out hb2)
        clear hb2
        go_wp2_with fail
        refine (HS.out _ HR2.out).mono ?_
        rintro e w3 ⟨rfl, hb3⟩
        have HB3 := Aside0.mk (below_then HB2.out HB2.out.size hb3)
        clear hb3
        go_wp2_with fail
        refine (HL.out _).mono ?_
        rintro e wz ⟨rfl, hbz⟩
        have HBz := Aside0.mk (below_then HB3.out HB3.out.size hbz)
        clear hbz
        go_wp2_with fail
        go_ret
        exact ⟨rfl, HBz.out⟩
      | some L =>
        have h10 : ¬ (10 : Int) < m := fun h => by rw [if_pos h] at hso; cases hso
        rw [if_neg h10, Int.toNat_natCast] at hso
        have HS := Aside0.mk (fun w h => sent_good he h10 hso A c w h hc)
        have ok := Sh.okt_of he
        rw [Int.toNat_natCast] at ok
        have hF := sentF_of ok (by omega) (sent_all hso).2
        have hKs : ∀ w, Sh.KernelsPost m l w = fun e w' => e = .returned (.tuple #[.int .i64 (Sh.manyK m (Sh.townO l) (2 ^ m) : Nat), .int .i64 0]) ∧ Below w.heap.size w w' := fun w => by funext e w'; simp only [Sh.KernelsPost, he, if_true, Int.toNat_natCast]
        have hIs : ∀ w, Sh.IsPost m l xs w = fun e w' => e = .returned (.tuple #[.bool (decide (Sh.AscTo m xs xs.length) && Sh.kerB m (Sh.townO l) (Sh.setOf xs) (2 ^ m - 1)), .int .i64 0]) ∧ Below w.heap.size w w' := fun w => by funext e w'; simp only [Sh.IsPost, he, if_true, Int.toNat_natCast, Sh.isB]
        have HKs := Aside0.mk (fun w h => Sh.Kernels_any m A c l w h hc)
        have HIs := Aside0.mk (fun w h h2 => Sh.Is_any m A c l B d xs w h hc h2 hd (by omega))
        simp only [hKs] at HKs
        simp only [hIs] at HIs
        clear hKs hIs
        have HSe := Aside0.mk (fun w h2 => set_call m n12 B d xs w h2 hd (by omega))
        have HCt := Aside0.mk (fun w A' c' h => count_call (sentL m (Sh.townO l)) w A' c' h)
        have HVl := Aside0.mk (fun s w A' c' h hs => value_call (sentL m (Sh.townO l)) s w A' c' h hs)
        rw [sentL_len, hF.count] at HCt
        rw [sentL_len] at HVl
        have hFv := Aside0.mk hF.value
        generalize sentL m (Sh.townO l) = SL at *
        generalize Sh.townO l = o at *
        generalize Sh.manyK m o (2 ^ m) = K at *
        clear hev he hso hF ok
        have hm10 : m ≤ 10 := by omega
        by_cases ha : Sh.AscTo m xs xs.length
        · have hlt := Sh.setOf_lt m xs xs.length (Nat.le_refl _) ha
          rw [List.take_length] at hlt
          simp only [if_pos ha, decide_eq_true ha, Bool.true_and] at HSe HIs
          generalize hS : Sh.setOf xs = S at *
          clear hS ha
          have hS62 : S < 2 ^ 62 := Nat.lt_of_lt_of_le hlt (Nat.pow_le_pow_right (by decide) (by omega))
          clear hlt
          obtain ⟨V, hV1, hV2, hV3⟩ := hFv.out S
          have HV2 := Aside0.mk hV2
          have HV3 := Aside0.mk hV3
          rw [← hV3] at HIs
          clear hV2 hV3 hFv
          go_enter Tryd.func3, Tryd.ntmps3
          go_wp2_with fail
          refine HF.out.mono ?_
          rintro e w1 ⟨rfl, hb1⟩
          have HB1 := Aside0.mk hb1
          have HR1 := Aside0.mk (Kd.C_below HR.out hb1)
          have HQ1 := Aside0.mk (Kd.C_below HQ.out hb1)
          clear hb1 HF HR HQ
          go_wp2_with fail
          refine (HV.out _ HR1.out).mono ?_
          rintro e w2 ⟨rfl, hb2⟩
          have HB2 := Aside0.mk (below_then HB1.out HB1.out.size hb2)
          have HR2 := Aside0.mk (Kd.C_below HR1.out hb2)
          have HQ2 := Aside0.mk (Kd.C_below HQ1.out hb2)
          clear hb2 HB1 HR1 HQ1 HV
          go_wp2_with fail
          refine (HS.out _ HR2.out).mono ?_
          rintro e w3 ⟨A3, c3, rfl, hC3, hb3⟩
          have HB3 := Aside0.mk (below_then HB2.out HB2.out.size hb3)
          have HR3 := Aside0.mk (Kd.C_below HR2.out hb3)
          have HQ3 := Aside0.mk (Kd.C_below HQ2.out hb3)
          have HC3 := Aside0.mk hC3
          clear hb3 hC3 HB2 HR2 HQ2 HS
          go_wp2_with fail
          refine (HCt.out _ _ _ HC3.out).mono ?_
          rintro e w4 ⟨rfl, hb4⟩
          have HB4 := Aside0.mk (below_then HB3.out HB3.out.size hb4)
          have HR4 := Aside0.mk (Kd.C_below HR3.out hb4)
          have HQ4 := Aside0.mk (Kd.C_below HQ3.out hb4)
          have HC4 := Aside0.mk (Kd.C_below HC3.out hb4)
          clear hb4 HB3 HR3 HQ3 HC3 HCt
          go_wp2_with fail
          refine (HKs.out _ HR4.out).mono ?_
          rintro e w5 ⟨rfl, hb5⟩
          have HB5 := Aside0.mk (below_then HB4.out HB4.out.size hb5)
          have HR5 := Aside0.mk (Kd.C_below HR4.out hb5)
          have HQ5 := Aside0.mk (Kd.C_below HQ4.out hb5)
          have HC5 := Aside0.mk (Kd.C_below HC4.out hb5)
          clear hb5 HB4 HR4 HQ4 HC4 HKs
          go_wp2_with fail
          refine (HSe.out _ HQ5.out).mono ?_
          rintro e w6 ⟨rfl, hb6⟩
          have HB6 := Aside0.mk (below_then HB5.out HB5.out.size hb6)
          have HR6 := Aside0.mk (Kd.C_below HR5.out hb6)
          have HQ6 := Aside0.mk (Kd.C_below HQ5.out hb6)
          have HC6 := Aside0.mk (Kd.C_below HC5.out hb6)
          clear hb6 HB5 HR5 HQ5 HC5 HSe
          go_wp2_with fail
          go_loopw [14, 15] (fun v14 v wr => ∃ i : Nat, i ≤ m ∧ v = .int .i64 (i : Int) ∧ v14 = .string (strV (bitV i S.testBit)) ∧ Aside0 (Below w6.heap.size w6 wr)) (fun _ v _ => m - (intOf v).toNat)
          case atStart => exact ⟨0, Nat.zero_le _, rfl, rfl, ⟨Below.refl _ _⟩⟩
          case round =>
            obtain ⟨i, hi, rfl, rfl, HBr⟩ := hrel
            by_cases him : i < m
            · have hsz : (strV (bitV i S.testBit)).size ≤ 12 := by rw [strV_size]; simp [bitV]; omega
              have hsn := str_snoc (bitV i S.testBit) (some (S.testBit i))
              rw [← bitV_snoc] at hsn
              have hbt := bit_tmod S i
              generalize strV (bitV i S.testBit) = v0 at *
              have HSN := Aside0.mk hsn
              clear hsn
              cases hb : S.testBit i with
              | true =>
                rw [hb, if_pos rfl] at hbt
                rw [hb, str01.2] at HSN
                go_upto_region 17 with fail
                go_quiet (fail)
                go_wp2_with fail
                go_roundw
                case rel => exact ⟨i + 1, by omega, by go_num, congrArg Value.string HSN.out, ⟨pw_below_drewN HBr.out nq⟩⟩
                case measure => simp [intOf]; omega
              | false =>
                rw [hb, if_neg (by simp)] at hbt
                rw [hb, str01.1] at HSN
                go_upto_region 17 with fail
                go_quiet (fail)
                go_wp2_with fail
                go_roundw
                case rel => exact ⟨i + 1, by omega, by go_num, congrArg Value.string HSN.out, ⟨pw_below_drewN HBr.out nq⟩⟩
                case measure => simp [intOf]; omega
            · obtain rfl : i = m := by omega
              have hlen : (strV (bitV i S.testBit)).size ≤ 9223372036854775807 := by rw [strV_size]; simp [bitV]; omega
              have HCr := Aside0.mk (Kd.C_below HC6.out HBr.out)
              have HRr := Aside0.mk (Kd.C_below HR6.out HBr.out)
              have HQr := Aside0.mk (Kd.C_below HQ6.out HBr.out)
              have HBw := Aside0.mk (below_then HB6.out HB6.out.size HBr.out)
              have hVc := HVl.out (strV (bitV i S.testBit)) wr A3 c3 HCr.out hlen
              rw [HV2.out] at hVc
              have HVc := Aside0.mk hVc
              have hcmp := eqS V (bitV i S.testBit)
              generalize decide (V = bitV i S.testBit) = eb at *
              generalize strV (bitV i S.testBit) = v0 at *
              generalize strV V = v1 at *
              clear hVc HVl HV2 HV3 hlen HC6 HR6 HQ6 HB6 HBr
              go_wp2_with fail
              refine HVc.out.mono ?_
              rintro e w7 ⟨rfl, hb7⟩
              have HB7 := Aside0.mk (below_then HBw.out HBw.out.size hb7)
              have HR7 := Aside0.mk (Kd.C_below HRr.out hb7)
              have HQ7 := Aside0.mk (Kd.C_below HQr.out hb7)
              clear hb7 HVc HBw HRr HQr HCr
              go_wp2_with fail
              refine (HIs.out _ HR7.out HQ7.out).mono ?_
              rintro e w8 ⟨rfl, hb8⟩
              have HB8 := Aside0.mk (below_then HB7.out HB7.out.size hb8)
              clear hb8 HB7 HR7 HQ7 HIs
              cases eb
              · go_wp2_with fail
                refine (HL.out _).mono ?_
                rintro e wz ⟨rfl, hbz⟩
                have HBz := Aside0.mk (below_then HB8.out HB8.out.size hbz)
                clear hbz
                go_wp2_with fail
                go_ret
                exact ⟨rfl, HBz.out⟩
              · go_wp2_with fail
                refine (HL.out _).mono ?_
                rintro e wz ⟨rfl, hbz⟩
                have HBz := Aside0.mk (below_then HB8.out HB8.out.size hbz)
                clear hbz
                go_wp2_with fail
                go_ret
                exact ⟨rfl, HBz.out⟩
        · simp only [if_neg ha, decide_eq_false ha] at HSe
          clear ha hFv HVl HIs
          go_enter Tryd.func3, Tryd.ntmps3
          go_wp2_with fail
          refine HF.out.mono ?_
          rintro e w1 ⟨rfl, hb1⟩
          have HB1 := Aside0.mk hb1
          have HR1 := Aside0.mk (Kd.C_below HR.out hb1)
          have HQ1 := Aside0.mk (Kd.C_below HQ.out hb1)
          clear hb1 HF HR HQ
          go_wp2_with fail
          refine (HV.out _ HR1.out).mono ?_
          rintro e w2 ⟨rfl, hb2⟩
          have HB2 := Aside0.mk (below_then HB1.out HB1.out.size hb2)
          have HR2 := Aside0.mk (Kd.C_below HR1.out hb2)
          have HQ2 := Aside0.mk (Kd.C_below HQ1.out hb2)
          clear hb2 HB1 HR1 HQ1 HV
          go_wp2_with fail
          refine (HS.out _ HR2.out).mono ?_
          rintro e w3 ⟨A3, c3, rfl, hC3, hb3⟩
          have HB3 := Aside0.mk (below_then HB2.out HB2.out.size hb3)
          have HR3 := Aside0.mk (Kd.C_below HR2.out hb3)
          have HQ3 := Aside0.mk (Kd.C_below HQ2.out hb3)
          have HC3 := Aside0.mk hC3
          clear hb3 hC3 HB2 HR2 HQ2 HS
          go_wp2_with fail
          refine (HCt.out _ _ _ HC3.out).mono ?_
          rintro e w4 ⟨rfl, hb4⟩
          have HB4 := Aside0.mk (below_then HB3.out HB3.out.size hb4)
          have HR4 := Aside0.mk (Kd.C_below HR3.out hb4)
          have HQ4 := Aside0.mk (Kd.C_below HQ3.out hb4)
          have HC4 := Aside0.mk (Kd.C_below HC3.out hb4)
          clear hb4 HB3 HR3 HQ3 HC3 HCt
          go_wp2_with fail
          refine (HKs.out _ HR4.out).mono ?_
          rintro e w5 ⟨rfl, hb5⟩
          have HB5 := Aside0.mk (below_then HB4.out HB4.out.size hb5)
          have HR5 := Aside0.mk (Kd.C_below HR4.out hb5)
          have HQ5 := Aside0.mk (Kd.C_below HQ4.out hb5)
          have HC5 := Aside0.mk (Kd.C_below HC4.out hb5)
          clear hb5 HB4 HR4 HQ4 HC4 HKs
          go_wp2_with fail
          refine (HSe.out _ HQ5.out).mono ?_
          rintro e w6 ⟨rfl, hb6⟩
          have HB6 := Aside0.mk (below_then HB5.out HB5.out.size hb6)
          have HR6 := Aside0.mk (Kd.C_below HR5.out hb6)
          have HQ6 := Aside0.mk (Kd.C_below HQ5.out hb6)
          have HC6 := Aside0.mk (Kd.C_below HC5.out hb6)
          clear hb6 HB5 HR5 HQ5 HC5 HSe
          go_wp2_with fail
          refine (HL.out _).mono ?_
          rintro e wz ⟨rfl, hbz⟩
          have HBz := Aside0.mk (below_then HB6.out HB6.out.size hbz)
          clear hbz
          go_wp2_with fail
          go_ret
          exact ⟨rfl, HBz.out⟩
    · have hev : (Sh.ofE n l == 0) = false := beq_eq_false_iff_ne.2 he
      rw [hev] at HV
      clear hev he
      go_enter Tryd.func3, Tryd.ntmps3
      go_wp2_with fail
      refine HF.out.mono ?_
      rintro e w1 ⟨rfl, hb1⟩
      have HB1 := Aside0.mk hb1
      have HR1 := Aside0.mk (Kd.C_below HR.out hb1)
      clear hb1
      go_wp2_with fail
      refine (HV.out _ HR1.out).mono ?_
      rintro e w2 ⟨rfl, hb2⟩
      have HB2 := Aside0.mk (below_then HB1.out HB1.out.size hb2)
      clear hb2
      go_wp2_with fail
      refine (HL.out _).mono ?_
      rintro e wz ⟨rfl, hbz⟩
      have HBz := Aside0.mk (below_then HB2.out HB2.out.size hbz)
      clear hbz
      go_wp2_with fail
      go_ret
      exact ⟨rfl, HBz.out⟩
end Go.Proofs.YtmobefgnkiboaaaDoor.Im

