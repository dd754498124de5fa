/- Further parts of the same walk: contracts of the functions that the law reaches, each under the conditions that it states. -/
import Derived.Test.YtlmgkmmdaecpdaaDoorC10J
namespace Go.Proofs.YtlmgkmmdaecpdaaDoor.Im
open Go.RowKit Go.Proofs.YtlmgkmmdaecpdaaDoorW.PrintWords Go.Proofs.YtlmgkmmdaecpdaaDoorW.PrintLast Go.Proofs.YtlmgkmmdaecpdaaDoorW.PrintMore Go.Proofs.YtlmgkmmdaecpdaaDoor.Mi
set_option linter.unusedVariables false
set_option linter.unusedSimpArgs false
set_option maxHeartbeats 3200000 in
set_option maxRecDepth 100000 in
theorem pbridge_err (n : Int) (s : ByteArray) (A : Option Addr) (k c : Nat) (w : World) (hs : s.size ≤ 9223372036854775807) (E : Int) (hE : boE n s xoB = E) (h0 : E ≠ 0) :
    Calls Tryd.prog 34 #[.int .i64 n, .string s, .slice A k c] w fun e w' => e = .returned (.tuple #[.string ⟨#[]⟩, .int .i64 E]) ∧ Below w.heap.size w w' := by
  have HBo := Aside0.mk (boarded_any n s xoB w hs (by decide) (by decide))
  have HE := Aside0.mk hE
  have H0 := Aside0.mk h0
  have q0 : (E == 0) = false := beq_eq_false_iff_ne.2 h0
  unfold xoB at HBo
  clear hE h0 hs
  go_enter Tryd.func34, Tryd.ntmps34
  go_wp2_with fail
  refine HBo.out.mono ?_
  rintro e w1 ⟨hb1, h1⟩
  rw [show boE n s ⟨#[120, 111]⟩ = E from HE.out, if_neg H0.out] at h1
  subst h1
  have HB1 := Aside0.mk hb1
  clear hb1 HBo
  go_wp2_with fail
  go_ret2
  exact ⟨rfl, HB1.out⟩
set_option maxHeartbeats 3200000 in
set_option maxRecDepth 100000 in
theorem pbridge_long (n : Nat) (s : ByteArray) (A : Option Addr) (L c : Nat) (w : World) (hs : s.size ≤ 9223372036854775807) (hE : boE n s xoB = 0) (hL : L = 0 ∨ n * n < L) :
    Calls Tryd.prog 34 #[.int .i64 n, .string s, .slice A L c] w fun e w' => e = .returned (.tuple #[.string ⟨#[]⟩, .int .i64 2]) ∧ Below w.heap.size w w' := by
  have HBo := Aside0.mk (boarded_any n s xoB w hs (by decide) (by decide))
  have HE := Aside0.mk hE
  unfold xoB at HBo
  clear hE hs
  obtain ⟨M, hM⟩ : ∃ M, n * n = M := ⟨_, rfl⟩
  rw [hM] at hL
  have HM := Aside0.mk hM
  clear hM
  rcases hL with rfl | hL
  · go_enter Tryd.func34, Tryd.ntmps34
    go_wp2_with fail
    refine HBo.out.mono ?_
    rintro e w1 ⟨hb1, h1⟩
    rw [if_pos (show boE (n : Int) s ⟨#[120, 111]⟩ = 0 from HE.out)] at h1
    obtain ⟨g, gb, cb, rfl, hbr, _, _, _⟩ := h1
    have HB1 := Aside0.mk hb1
    clear hb1 HBo hbr
    go_wp2_with fail
    go_ret2
    exact ⟨rfl, HB1.out⟩
  · have l0 : ((L : Int) == 0) = false := beq_eq_false_iff_ne.2 (by omega)
    have l1 : decide ((M : Int) < (L : Int)) = true := decide_eq_true (by omega)
    have l2 : decide (M < L) = true := decide_eq_true hL
    clear hL
    go_enter Tryd.func34, Tryd.ntmps34
    go_wp2_with fail
    refine HBo.out.mono ?_
    rintro e w1 ⟨hb1, h1⟩
    rw [if_pos (show boE (n : Int) s ⟨#[120, 111]⟩ = 0 from HE.out), Int.toNat_natCast] at h1
    obtain ⟨g, gb, cb, rfl, hbr, _, _, _⟩ := h1
    have hh1 : w1.cell? ⟨g, 1, none⟩ = some (.slice (some ⟨gb, 0, none⟩) M cb) := HM.out ▸ hbr.hd.cell 1
    have HB1 := Aside0.mk hb1
    clear hb1 HBo hbr
    go_wp2_with fail
    go_ret2
    exact ⟨rfl, HB1.out⟩
theorem bridge_call (n : Int) (s : ByteArray) (P : List Int) (A : Option Addr) (c : Nat) (w : World) (hst : Steps w) (hs : s.size ≤ 9223372036854775807) (hP : Kd.C (Kd.int .i64) w A P.length P) (hc : P.length ≤ c) :
    Calls Tryd.prog 34 #[.int .i64 n, .string s, .slice A P.length c] w fun e w' => e = .returned (.tuple #[.string (bgR n s P).1, .int .i64 (bgR n s P).2]) ∧ Below w.heap.size w w' := by
  by_cases hE : boE n s xoB = 0
  · have hok := boE_ok hE
    obtain ⟨m, rfl⟩ : ∃ m : Nat, n = m := ⟨n.toNat, by omega⟩
    rw [Int.toNat_natCast] at hok
    by_cases hl : P.length = 0 ∨ m * m < P.length
    · have hb : bgB m (bsOf s) P = false := by
        unfold bgB
        rcases hl with h | h
        · rw [decide_eq_false (by omega)]; rfl
        · rw [decide_eq_false (by omega : ¬ P.length ≤ m * m), Bool.and_false]; rfl
      have e : bgR m s P = (⟨#[]⟩, 2) := by unfold bgR; rw [if_pos hE, Int.toNat_natCast, hb]; rfl
      rw [e]
      exact pbridge_long m s A P.length c w hs hE hl
    · have e1 : (bgR m s P).1 = (if bgB m (bsOf s) P then strP (bgP (bsOf s) P) else ⟨#[]⟩) := by
        unfold bgR
        rw [if_pos hE, Int.toNat_natCast]
        split <;> rfl
      have e2 : (bgR m s P).2 = (if bgB m (bsOf s) P then 0 else 2) := by
        unfold bgR
        rw [if_pos hE, Int.toNat_natCast]
        split <;> rfl
      rw [e1, e2]
      exact pbridge_good m s P A c w hst hs hE hP hc (by omega) (by omega)
  · have e : bgR n s P = (⟨#[]⟩, boE n s xoB) := by unfold bgR; rw [if_neg hE]
    rw [e]
    exact pbridge_err n s A P.length c w hs _ rfl hE
end Go.Proofs.YtlmgkmmdaecpdaaDoor.Im

namespace Go.Proofs.YtlmgkmmdaecpdaaDoor.Im
open Go.RowKit Go.Proofs.YtlmgkmmdaecpdaaDoorW.PrintWords Go.Proofs.YtlmgkmmdaecpdaaDoorW.PrintLast Go.Proofs.YtlmgkmmdaecpdaaDoorW.PrintMore Go.Proofs.YtlmgkmmdaecpdaaDoor.Mi
set_option linter.unusedVariables false
set_option linter.unusedSimpArgs false
theorem take_contains {P : List Int} {k : Nat} (hk : k ≤ P.length) (x : Int) : (P.take k).contains x = true ↔ ∃ j : Nat, j < k ∧ rd P (j : Int) = x := by
  rw [List.contains_iff_mem, List.mem_take_iff_getElem]
  constructor
  · rintro ⟨j, hj, he⟩
    exact ⟨j, by omega, by rw [rd_get (by omega)]; exact he⟩
  · rintro ⟨j, hj, he⟩
    exact ⟨j, by omega, by rw [rd_get (by omega)] at he; exact he⟩
theorem okA_len {n : Nat} {bs P : List Int} (h : okA n bs P P.length = true) : P.length ≤ n * n := by
  have hk : ∀ k, k < P.length → okK n bs P k = true := fun k hk => List.all_eq_true.1 h k (List.mem_range.2 hk)
  have hh : ∀ k (hkl : k < P.length), 0 ≤ P[k] ∧ P[k] < ((n * n : Nat) : Int) ∧ ∀ j (hj : j < k), P[j] ≠ P[k] := fun k hkl => by
    have h1 := hk k hkl
    unfold okK at h1
    simp only [Bool.and_eq_true, decide_eq_true_eq, Bool.not_eq_true'] at h1
    obtain ⟨⟨⟨⟨a1, a2⟩, a3⟩, _⟩, _⟩ := h1
    rw [rd_get hkl] at a1 a2 a3
    refine ⟨a1, a2, fun j hj e => ?_⟩
    have := (take_contains (Nat.le_of_lt hkl) P[k]).2 ⟨j, hj, by rw [rd_get (by omega)]; exact e⟩
    rw [a3] at this
    cases this
  have hl := nodup_len (n * n) (P.map Int.toNat) (by
    show List.Pairwise _ _
    rw [List.pairwise_iff_getElem]
    intro j k hj hk2 hjk
    rw [List.length_map] at hj hk2
    rw [List.getElem_map, List.getElem_map]
    have h1 := hh k hk2
    have h2 := hh j hj
    have := h1.2.2 j hjk
    omega) (fun x hx => by
    obtain ⟨y, hy, rfl⟩ := List.mem_map.1 hx
    obtain ⟨k, hkl, rfl⟩ := List.mem_iff_getElem.1 hy
    have := hh k hkl
    omega)
  rw [List.length_map] at hl
  exact hl
theorem ends_d (n a : Nat) (p : Int) (hn : 1 ≤ n) (h11 : n ≤ 11) (ha : a < n * n) (hp : p = 120 ∨ p = 111) (w : World) : Calls Tryd.prog 69 #[.int .i64 n, .int .u8 p, .int .i64 a] w fun e w' => e = .returned (.bool (decide (enP n p a))) ∧ ∃ m, w' = w.drewN m :=
  (pomaderef04_ends.calls n p a _ w (ends_f n a p hn h11 ha hp)).mono fun e w' ⟨h1, h2⟩ => ⟨h1, h2.out⟩
theorem begins_d (n a : Nat) (p : Int) (hn : 1 ≤ n) (hp : p = 120 ∨ p = 111) (w : World) : Calls Tryd.prog 50 #[.int .i64 n, .int .u8 p, .int .i64 a] w fun e w' => e = .returned (.bool (decide (beP n p a))) ∧ ∃ m, w' = w.drewN m :=
  (pomaderef04_begins.calls n p a _ w (begins_f n a p hn hp)).mono fun e w' ⟨h1, h2⟩ => ⟨h1, h2.out⟩
theorem byte_of {s : ByteArray} {y : Nat} (h : y < s.size) : ((s[y]'h).toNat : Int) = (bsOf s).getD y 0 := by
  rw [← bt_bs]
  exact bt_at s (y : Int) (by rw [Int.toNat_natCast]; exact h)
theorem one_byte {s : ByteArray} {y : Nat} (h : y < s.size) : s.extract y (y + 1) = strP ((bsOf s).getD y 0) := by
  rw [← byte_of h]
  apply ByteArray.ext
  rw [ByteArray.data_extract]
  unfold strP
  rw [Int.toNat_natCast]
  have : UInt8.ofNat (s[y]'h).toNat = s[y]'h := UInt8.ofNat_toNat
  rw [this]
  apply Array.ext
  · rw [Array.size_extract]
    show min (y + 1) s.data.size - y = 1
    have : y < s.data.size := h
    omega
  · intro i h1 h2
    have hi : i = 0 := by simpa using h2
    subst hi
    rw [Array.getElem_extract]
    rfl
theorem wrap_sub2 {k j : Nat} (h : k = j + 1) (hk : k ≤ 1000000) : IntKind.i64.wrap ((k : Int) - 1) = (j : Int) ∧ wrap64 ((k : Int) - 1) = (j : Int) ∧ (k : Int) - 1 = (j : Int) := by
  have h2 : wrap64 ((k : Int) - 1) = (j : Int) := by unfold wrap64; omega
  exact ⟨by rw [IntWalk.i64_left]; exact h2, h2, by omega⟩
theorem idx_at {s : ByteArray} {y : Nat} (h : y < s.size) {v : Int} (hv : ((s[y]'h).toNat : Int) = v) (w : World) : (Instr.index 9 (.string s) (.int .i64 (y : Int))).run Tryd.prog w = .ok (.int .u8 v) w := by
  have k := run_index_string (P := Tryd.prog) (w := w) 9 s .i64 (y : Int) Tryd.underlying9
  rw [dif_pos ⟨by omega, by omega⟩] at k
  rw [k, ← hv]
  simp only [Int.toNat_natCast]
set_option maxHeartbeats 6400000 in
set_option maxRecDepth 100000 in
theorem rbridge_good (n : Nat) (s : ByteArray) (P : List Int) (A : Option Addr) (c : Nat) (w : World) (hs : s.size ≤ 1000000) (hE : boE n s xoB = 0) (hP : Kd.C (Kd.int .i64) w A P.length P) (hc : P.length ≤ c) (hl : P.length ≤ 1000) :
    Calls Tryd.prog 35 #[.int .i64 n, .string s, .slice A P.length c] w fun e w' => e = .returned (.tuple #[.string (if bgB n (bsOf s) P then strP (bgP (bsOf s) P) else ⟨#[]⟩), .int .i64 (if bgB n (bsOf s) P then 0 else 2)]) ∧ Below w.heap.size w w' := by
  have HBd := Aside0.mk (show Calls Tryd.prog 22 #[.int .i64 n, .string s, .bool false] w fun e w' => e = .returned (.int .i64 0) ∧ Below w.heap.size w w' from (show boE n s (csB false) = 0 from hE) ▸ board_any n s false w hs)
  have HP := Aside0.mk hP
  have hok := boE_ok hE
  rw [Int.toNat_natCast] at hok
  obtain ⟨n1, n11, hsz⟩ := hok
  have n1' : 1 ≤ n := by omega
  have n11' : n ≤ 11 := by omega
  have hM : n * n ≤ 121 := Nat.mul_le_mul n11' n11'
  have HF := Aside0.mk (fun a (ha : a < n * n) => full_byte hE (a := a) (by omega))
  clear hE hs n1 n11 hP
  obtain ⟨bs, hbs⟩ : ∃ bs, bsOf s = bs := ⟨_, rfl⟩
  obtain ⟨L, hL⟩ : ∃ L, P.length = L := ⟨_, rfl⟩
  obtain ⟨M, hMM⟩ : ∃ M, n * n = M := ⟨_, rfl⟩
  have hnn : (n : Int) * (n : Int) = (M : Int) := by rw [← hMM, Int.natCast_mul]
  have HMM := Aside0.mk hMM
  have HL := Aside0.mk hL
  have HBS := Aside0.mk hbs
  rw [hbs, hL]
  rw [hL] at hc hl
  rw [hMM] at hM hsz
  have HSZ := Aside0.mk hsz
  clear hL hbs hMM hsz
  have m0 : (0 : Int) ≤ (M : Int) := by omega
  have m1 : (M : Int) ≤ 121 := by omega
  have wM : IntKind.i64.wrap (M : Int) = (M : Int) := by rw [IntWalk.i64_left]; exact wr_small (by omega) (by omega)
  obtain ⟨rs, hrs⟩ : ∃ r, (if bgB n bs P then strP (bgP bs P) else ⟨#[]⟩) = r := ⟨_, rfl⟩
  obtain ⟨re, hre⟩ : ∃ r : Int, (if bgB n bs P then 0 else 2) = r := ⟨_, rfl⟩
  rw [hrs, hre]
  have HFal : Aside0 (∀ k, k < L → okK n bs P k = false → rs = ⟨#[]⟩ ∧ re = 2) := ⟨fun k hk h => by
    have : bgB n bs P = false := by
      unfold bgB
      rw [okA_false (m := P.length) h (by rw [HL.out]; exact hk)]
      simp
    rw [← hrs, ← hre, this]
    exact ⟨rfl, rfl⟩⟩
  have HNil : Aside0 (L = 0 → rs = ⟨#[]⟩ ∧ re = 2) := ⟨fun h => by
    have : bgB n bs P = false := by
      unfold bgB
      rw [HL.out, h]
      rfl
    rw [← hrs, ← hre, this]
    exact ⟨rfl, rfl⟩⟩
  have HEnd : Aside0 (0 < L → okA n bs P L = true → (bgE n bs P = true → rs = strP (bgP bs P) ∧ re = 0) ∧ (bgE n bs P = false → rs = ⟨#[]⟩ ∧ re = 2)) := ⟨fun h0 h => by
    have hb : bgB n bs P = bgE n bs P := by
      unfold bgB
      rw [HL.out, h, decide_eq_true h0, decide_eq_true (by rw [← HL.out]; exact okA_len (by rw [HL.out]; exact h))]
      simp
    rw [hb] at hrs hre
    exact ⟨fun h => by rw [h] at hrs hre; exact ⟨hrs.symm, hre.symm⟩, fun h => by rw [h] at hrs hre; exact ⟨hrs.symm, hre.symm⟩⟩⟩
  clear hrs hre
  have HNr := Aside0.mk (fun (a b : Nat) (ha : a < M) (hb : b < M) (w1 : World) => near_q n a b n1' (by omega) (by omega) w1)
  have HEa := Aside0.mk (fun (a : Nat) (p : Int) (ha : a < M) (hp : p = 120 ∨ p = 111) (w1 : World) => ends_d n a p n1' n11' (by rw [HMM.out]; exact ha) hp w1)
  have HBa := Aside0.mk (fun (a : Nat) (p : Int) (hp : p = 120 ∨ p = 111) (w1 : World) => begins_d n a p n1' hp w1)
  go_enter Tryd.func35, Tryd.ntmps35
  go_wp2_with fail
  refine HBd.out.mono ?_
  rintro e w1 ⟨rfl, hb1⟩
  have HB1 := Aside0.mk hb1
  have HP1 := Aside0.mk (Kd.C_below HP.out hb1)
  clear hb1 HBd
  go_wp2_with fail
  go_loopw [9, 10] (fun v9 v10 wr => ∃ k : Nat, k ≤ L ∧ v9 = .int .i64 (k : Int) ∧ Aside0 (okA n bs P k = true) ∧ Aside0 (Below w1.heap.size w1 wr)) (fun v _ _ => L - (intOf v).toNat)
  case atStart => exact ⟨0, Nat.zero_le _, rfl, ⟨rfl⟩, ⟨Below.refl _ _⟩⟩
  case round =>
    obtain ⟨k, hk, rfl, HO, HBw⟩ := hrel
    have HBW := Aside0.mk (below_then HB1.out HB1.out.size HBw.out)
    by_cases hkL : k < L
    · obtain ⟨ad, eA, _⟩ := Kd.at_int HP1.out 0 (by omega) (by rw [HL.out]; omega)
      subst eA
      have cP : ∀ (w2 : World), Below w1.heap.size w1 w2 → ∀ i : Nat, i < L → w2.cell? (ad.add i) = some (.int .i64 (rd P (i : Int))) := fun w2 h i hi => by
        obtain ⟨ad', e, h⟩ := Kd.at_int (Kd.C_below HP1.out h) (i : Int) (by omega) (by rw [HL.out]; omega)
        cases e
        rw [Int.toNat_natCast] at h
        exact h
      have HcP := Aside0.mk cP
      have g1 : decide ((k : Int) < (L : Int)) = true := decide_eq_true (by omega)
      have g2 : decide (k < L) = true := decide_eq_true hkL
      have u0 : (0 : Int) ≤ (k : Int) := by omega
      have u1 : (k : Int) < (L : Int) := by omega
      have u9 : (0 : Int) < (L : Int) := by omega
      have h0 : 0 < L := by omega
      have ck := cP wr HBw.out k hkL
      have c0 : wr.cell? ad = some (.int .i64 (rd P ((0 : Nat) : Int))) := cP wr HBw.out 0 (by omega)
      clear cP
      obtain ⟨x, hx⟩ : ∃ x, rd P (k : Int) = x := ⟨_, rfl⟩
      rw [hx] at ck
      have HX := Aside0.mk hx
      clear hx
      by_cases b1 : x < 0
      · have q1 : decide (x < 0) = true := decide_eq_true b1
        have hbad : okK n bs P k = false := by unfold okK; rw [HX.out, decide_eq_false (by omega)]; simp
        have HBD := Aside0.mk (HFal.out k hkL hbad)
        clear hbad b1
        go_wp2_with fail
        go_quiet (fail)
        go_wp2_with fail
        go_ret2
        exact ⟨by rw [HBD.out.1, HBD.out.2]; rfl, pw_below_drewN HBW.out nq⟩
      have q1 : decide (x < 0) = false := decide_eq_false b1
      by_cases b2 : x < (M : Int)
      case neg =>
        have q2 : decide (x < (M : Int)) = false := decide_eq_false b2
        have q2' : decide ((M : Int) ≤ x) = true := decide_eq_true (by omega)
        have hbad : okK n bs P k = false := by unfold okK; rw [HX.out, HMM.out, decide_eq_false b2]; simp
        have HBD := Aside0.mk (HFal.out k hkL hbad)
        clear hbad b1 b2
        go_wp2_with fail
        go_quiet (fail)
        go_wp2_with fail
        go_ret2
        exact ⟨by rw [HBD.out.1, HBD.out.2]; rfl, pw_below_drewN HBW.out nq⟩
      have q2' : decide ((M : Int) ≤ x) = false := decide_eq_false (by omega)
      obtain ⟨y, rfl⟩ : ∃ y : Nat, x = (y : Nat) := ⟨x.toNat, by omega⟩
      have hyM : y < M := by omega
      have q2n : decide (M ≤ y) = false := decide_eq_false (by omega)
      obtain ⟨p, hp, hpM⟩ : ∃ p : Nat, rd P ((0 : Nat) : Int) = (p : Nat) ∧ p < M := by
        rcases Nat.eq_zero_or_pos k with e | e
        · subst e
          exact ⟨y, HX.out, hyM⟩
        · have h1 := List.all_eq_true.1 HO.out 0 (List.mem_range.2 e)
          unfold okK at h1
          rw [HMM.out] at h1
          simp only [Bool.and_eq_true, decide_eq_true_eq] at h1
          exact ⟨(rd P ((0 : Nat) : Int)).toNat, by omega, by omega⟩
      rw [hp] at c0
      have q2 : decide ((y : Int) < (M : Int)) = true := decide_eq_true b2
      have u3 : (0 : Int) ≤ (y : Int) := by omega
      have u4 : (y : Int) < (M : Int) := by omega
      have u5 : (0 : Int) ≤ (p : Int) := by omega
      have hys : y < s.size := by rw [HSZ.out]; exact hyM
      have hps : p < s.size := by rw [HSZ.out]; exact hpM
      have s0 : (y : Int) < (s.size : Int) := by omega
      have s1 : (p : Int) < (s.size : Int) := by omega
      obtain ⟨vy, hvy⟩ : ∃ v : Int, ((s[y]'hys).toNat : Int) = v := ⟨_, rfl⟩
      obtain ⟨vp, hvp⟩ : ∃ v : Int, ((s[p]'hps).toNat : Int) = v := ⟨_, rfl⟩
      have iy := idx_at hys hvy
      have ip := idx_at hps hvp
      have hok1 : okK n bs P k = (!((P.take k).contains (y : Int)) && (vy == vp) && (decide (k = 0) || decide (NearN n (rd P ((k - 1 : Nat) : Int)).toNat y))) := by
        unfold okK
        rw [HX.out, show rd P 0 = (p : Int) from hp, HMM.out, decide_eq_true (by omega), decide_eq_true (by omega), Int.toNat_natCast, Int.toNat_natCast, ← HBS.out, ← byte_of hys, ← byte_of hps, hvy, hvp]
        simp
      have HOK := Aside0.mk hok1
      clear hok1 b1 b2 hp hvy hvp
      rcases Bool.eq_false_or_eq_true (vy == vp) with v1 | v1
      case inr =>
        have hbad : okK n bs P k = false := by rw [HOK.out, v1]; simp
        have HBD := Aside0.mk (HFal.out k hkL hbad)
        have v2 : (vy != vp) = true := by rw [bne, v1]; rfl
        have v3 : ¬ vy = vp := beq_eq_false_iff_ne.1 v1
        have v4 : decide (vy = vp) = false := decide_eq_false v3
        clear hbad
        go_wp2_with fail
        go_quiet (fail)
        go_wp2_with fail
        go_ret2
        exact ⟨by rw [HBD.out.1, HBD.out.2]; rfl, pw_below_drewN HBW.out nq⟩
      rw [v1, Bool.and_true] at HOK
      obtain rfl : vy = vp := beq_iff_eq.1 v1
      clear v1
      rcases Nat.eq_zero_or_pos k with hk0 | hk0
      · have k1 : decide ((0 : Int) < (k : Int)) = false := decide_eq_false (by omega)
        have k2 : decide (0 < k) = false := decide_eq_false (by omega)
        have HK0 := Aside0.mk hk0
        clear hk0
        go_wp2_with fail
        go_quiet (fail)
        have HBq := Aside0.mk (pw_below_drewN HBw.out nq)
        generalize wr.drewN nq = w3 at *
        go_wp2_with fail
        go_loopw [10] (fun v10 w4 => ∃ q : Nat, q ≤ k ∧ v10 = .int .i64 (q : Int) ∧ Aside0 (∀ j : Nat, j < q → rd P (j : Int) ≠ (y : Int)) ∧ Aside0 (Below w1.heap.size w1 w4)) (fun v _ => k - (intOf v).toNat)
        case atStart => exact ⟨0, Nat.zero_le _, rfl, ⟨fun j h => absurd h (by omega)⟩, HBq⟩
        case round =>
          obtain ⟨q, hq, rfl, HNo, HB4⟩ := hrel
          have HB4w := Aside0.mk (below_then HB1.out HB1.out.size HB4.out)
          by_cases hqk : q < k
          · have g3 : decide ((q : Int) < (k : Int)) = true := decide_eq_true (by omega)
            have g4 : decide (q < k) = true := decide_eq_true hqk
            have cq := HcP.out wr HB4.out q (by omega)
            have ck := HcP.out wr HB4.out k hkL
            rw [HX.out] at ck
            obtain ⟨xq, hxq⟩ : ∃ x, rd P (q : Int) = x := ⟨_, rfl⟩
            rw [hxq] at cq
            have HXQ := Aside0.mk hxq
            have v0 : (0 : Int) ≤ (q : Int) := by omega
            have v2 : (q : Int) < (L : Int) := by omega
            clear hxq
            by_cases he : xq = (y : Int)
            · have q5 : (xq == (y : Int)) = true := beq_iff_eq.2 he
              have hbad : okK n bs P k = false := by
                rw [HOK.out, (take_contains (by rw [HL.out]; omega) (y : Int)).2 ⟨q, hqk, by rw [HXQ.out]; exact he⟩]
                rfl
              have HBD := Aside0.mk (HFal.out k hkL hbad)
              clear hbad he
              go_wp2_with fail
              go_quiet (fail)
              go_wp2_with fail
              go_ret2
              exact ⟨by rw [HBD.out.1, HBD.out.2]; rfl, pw_below_drewN HB4w.out nq⟩
            · have q5 : (xq == (y : Int)) = false := beq_eq_false_iff_ne.2 he
              have HN2 : Aside0 (∀ j : Nat, j < q + 1 → rd P (j : Int) ≠ (y : Int)) := ⟨fun j hj => by
                rcases Nat.lt_or_ge j q with h | h
                · exact HNo.out j h
                · obtain rfl : j = q := by omega
                  rw [HXQ.out]; exact he⟩
              clear he
              go_wp2_with fail
              go_quiet (fail)
              go_wp2_with fail
              go_roundw
              case rel => exact ⟨q + 1, hqk, by go_num, HN2, ⟨pw_below_drewN HB4.out nq⟩⟩
              case measure => simp [intOf]; omega
          · have g3 : decide ((q : Int) < (k : Int)) = false := decide_eq_false (by omega)
            have g4 : decide (q < k) = false := decide_eq_false hqk
            have hnc : (P.take k).contains (y : Int) = false := by
              cases hct : (P.take k).contains (y : Int) with
              | false => rfl
              | true =>
                obtain ⟨j, hj, hje⟩ := (take_contains (by rw [HL.out]; omega) (y : Int)).1 hct
                exact absurd hje (HNo.out j (by omega))
            have hgo : okK n bs P k = true := by
              rw [HOK.out, hnc]
              rw [HK0.out]; simp
            have HGO := Aside0.mk hgo
            clear hgo hnc
            go_wp2_with fail
            go_roundw
            case rel => exact ⟨k + 1, hkL, by go_num, ⟨by rw [okA_succ, HO.out, HGO.out]; rfl⟩, HB4⟩
            case measure => simp [intOf]; omega
      · obtain ⟨j, hj⟩ : ∃ j, k = j + 1 := ⟨k - 1, by omega⟩
        obtain ⟨e1, e2, e3⟩ := wrap_sub2 hj (by omega)
        have k1 : decide ((0 : Int) < (k : Int)) = true := decide_eq_true (by omega)
        have k2 : decide (0 < k) = true := decide_eq_true hk0
        obtain ⟨z, hz, hzM⟩ : ∃ z : Nat, rd P (j : Int) = (z : Nat) ∧ z < M := by
          have h1 := List.all_eq_true.1 HO.out j (List.mem_range.2 (by omega))
          unfold okK at h1
          rw [HMM.out] at h1
          simp only [Bool.and_eq_true, decide_eq_true_eq] at h1
          exact ⟨(rd P (j : Int)).toNat, by omega, by omega⟩
        have cj := HcP.out wr HBw.out j (by omega)
        rw [hz] at cj
        have hkj : k - 1 = j := by omega
        rw [hkj, hz, Int.toNat_natCast, decide_eq_false (by omega : ¬ k = 0), Bool.false_or] at HOK
        have u6 : (0 : Int) ≤ (j : Int) := by omega
        have u7 : (j : Int) < (L : Int) := by omega
        have HNab := Aside0.mk (HNr.out z y hzM hyM)
        clear hz hj hkj hk0
        cases hnr : decide (NearN n z y)
        · rw [hnr] at HOK HNab
          have hbad : okK n bs P k = false := by rw [HOK.out, Bool.and_false]
          have HBD := Aside0.mk (HFal.out k hkL hbad)
          clear hbad hnr
          go_wp2_with fail
          go_quiet (first | exact Calls.quiet_of (HNab.out _))
          go_wp2_with fail
          go_ret2
          exact ⟨by rw [HBD.out.1, HBD.out.2]; rfl, pw_below_drewN HBW.out nq⟩
        · rw [hnr] at HOK HNab
          clear hnr
          go_wp2_with fail
          go_quiet (first | exact Calls.quiet_of (HNab.out _))
          have HBq := Aside0.mk (pw_below_drewN HBw.out nq)
          generalize wr.drewN nq = w3 at *
          go_wp2_with fail
          go_loopw [10] (fun v10 w4 => ∃ q : Nat, q ≤ k ∧ v10 = .int .i64 (q : Int) ∧ Aside0 (∀ j : Nat, j < q → rd P (j : Int) ≠ (y : Int)) ∧ Aside0 (Below w1.heap.size w1 w4)) (fun v _ => k - (intOf v).toNat)
          case atStart => exact ⟨0, Nat.zero_le _, rfl, ⟨fun j h => absurd h (by omega)⟩, HBq⟩
          case round =>
            obtain ⟨q, hq, rfl, HNo, HB4⟩ := hrel
            have HB4w := Aside0.mk (below_then HB1.out HB1.out.size HB4.out)
            by_cases hqk : q < k
            · have g3 : decide ((q : Int) < (k : Int)) = true := decide_eq_true (by omega)
              have g4 : decide (q < k) = true := decide_eq_true hqk
              have cq := HcP.out wr HB4.out q (by omega)
              have ck := HcP.out wr HB4.out k hkL
              rw [HX.out] at ck
              obtain ⟨xq, hxq⟩ : ∃ x, rd P (q : Int) = x := ⟨_, rfl⟩
              rw [hxq] at cq
              have HXQ := Aside0.mk hxq
              have v0 : (0 : Int) ≤ (q : Int) := by omega
              have v2 : (q : Int) < (L : Int) := by omega
              clear hxq
              by_cases he : xq = (y : Int)
              · have q5 : (xq == (y : Int)) = true := beq_iff_eq.2 he
                have hbad : okK n bs P k = false := by
                  rw [HOK.out, (take_contains (by rw [HL.out]; omega) (y : Int)).2 ⟨q, hqk, by rw [HXQ.out]; exact he⟩]
                  rfl
                have HBD := Aside0.mk (HFal.out k hkL hbad)
                clear hbad he
                go_wp2_with fail
                go_quiet (fail)
                go_wp2_with fail
                go_ret2
                exact ⟨by rw [HBD.out.1, HBD.out.2]; rfl, pw_below_drewN HB4w.out nq⟩
              · have q5 : (xq == (y : Int)) = false := beq_eq_false_iff_ne.2 he
                have HN2 : Aside0 (∀ j : Nat, j < q + 1 → rd P (j : Int) ≠ (y : Int)) := ⟨fun j hj => by
                  rcases Nat.lt_or_ge j q with h | h
                  · exact HNo.out j h
                  · obtain rfl : j = q := by omega
                    rw [HXQ.out]; exact he⟩
                clear he
                go_wp2_with fail
                go_quiet (fail)
                go_wp2_with fail
                go_roundw
                case rel => exact ⟨q + 1, hqk, by go_num, HN2, ⟨pw_below_drewN HB4.out nq⟩⟩
                case measure => simp [intOf]; omega
            · have g3 : decide ((q : Int) < (k : Int)) = false := decide_eq_false (by omega)
              have g4 : decide (q < k) = false := decide_eq_false hqk
              have hnc : (P.take k).contains (y : Int) = false := by
                cases hct : (P.take k).contains (y : Int) with
                | false => rfl
                | true =>
                  obtain ⟨j, hj, hje⟩ := (take_contains (by rw [HL.out]; omega) (y : Int)).1 hct
                  exact absurd hje (HNo.out j (by omega))
              have hgo : okK n bs P k = true := by
                rw [HOK.out, hnc]
                rfl
              have HGO := Aside0.mk hgo
              clear hgo hnc
              go_wp2_with fail
              go_roundw
              case rel => exact ⟨k + 1, hkL, by go_num, ⟨by rw [okA_succ, HO.out, HGO.out]; rfl⟩, HB4⟩
              case measure => simp [intOf]; omega
    · have g1 : decide ((k : Int) < (L : Int)) = false := decide_eq_false (by omega)
      have g2 : decide (k < L) = false := decide_eq_false hkL
      obtain rfl : L = k := by omega
      rcases Nat.eq_zero_or_pos L with hL0 | hL0
      · have k1 : ((L : Int) == 0) = true := beq_iff_eq.2 (by omega)
        have HR := Aside0.mk (HNil.out hL0)
        clear hL0
        go_wp2_with fail
        go_quiet (fail)
        go_wp2_with fail
        go_ret2
        exact ⟨by rw [HR.out.1, HR.out.2]; rfl, pw_below_drewN HBW.out nq⟩
      have k1 : ((L : Int) == 0) = false := beq_eq_false_iff_ne.2 (by omega)
      obtain ⟨hE1, hE2⟩ := HEnd.out hL0 HO.out
      have rng : ∀ i, i < L → ∃ z : Nat, rd P (i : Int) = (z : Nat) ∧ z < M := fun i hi => by
        have h1 := List.all_eq_true.1 HO.out i (List.mem_range.2 hi)
        unfold okK at h1
        rw [HMM.out] at h1
        simp only [Bool.and_eq_true, decide_eq_true_eq] at h1
        exact ⟨(rd P (i : Int)).toNat, by omega, by omega⟩
      obtain ⟨p, hp, hpM⟩ := rng 0 hL0
      obtain ⟨z, hz, hzM⟩ := rng (L - 1) (by omega)
      obtain ⟨ad, eA, _⟩ := Kd.at_int HP1.out 0 (by omega) (by rw [HL.out]; omega)
      subst eA
      have cP : ∀ i : Nat, i < L → wr.cell? (ad.add i) = some (.int .i64 (rd P (i : Int))) := fun i hi => by
        obtain ⟨ad', e, h⟩ := Kd.at_int (Kd.C_below HP1.out HBw.out) (i : Int) (by omega) (by rw [HL.out]; omega)
        cases e
        rw [Int.toNat_natCast] at h
        exact h
      have c0 : wr.cell? ad = some (.int .i64 (p : Nat)) := hp ▸ cP 0 hL0
      have hps : p < s.size := by rw [HSZ.out]; exact hpM
      obtain ⟨vp, hvp⟩ : ∃ v : Int, ((s[p]'hps).toNat : Int) = v := ⟨_, rfl⟩
      have ip := idx_at hps hvp
      have hgp : bs.getD p 0 = vp := by rw [← HBS.out, ← byte_of hps, hvp]
      have hbgP : bgP bs P = vp := by
        unfold bgP
        rw [show rd P 0 = (p : Int) from hp, Int.toNat_natCast, hgp]
      have hbgE : bgE n bs P = (decide (beP n vp p) && decide (enP n vp z)) := by
        unfold bgE
        rw [hbgP, HL.out, show rd P 0 = (p : Int) from hp, show rd P ((L - 1 : Nat) : Int) = (z : Int) from hz, Int.toNat_natCast, Int.toNat_natCast]
      rw [hbgE] at hE1 hE2
      rw [hbgP] at hE1
      have hpl : vp = 120 ∨ vp = 111 := by rw [← hgp, ← HBS.out]; exact HF.out p (by rw [HMM.out]; exact hpM)
      have hex := one_byte hps
      rw [HBS.out, hgp] at hex
      have HBb := Aside0.mk (HBa.out p vp hpl)
      have HEe := Aside0.mk (HEa.out z vp hzM hpl)
      have HE1 := Aside0.mk hE1
      have HE2 := Aside0.mk hE2
      obtain ⟨l, hl2⟩ : ∃ l, L = l + 1 := ⟨L - 1, by omega⟩
      have w1' : IntKind.i64.wrap ((L : Int) - 1) = (l : Int) := by rw [IntWalk.i64_left]; unfold wrap64; omega
      have w2' : wrap64 ((L : Int) - 1) = (l : Int) := by unfold wrap64; omega
      have w3' : (L : Int) - 1 = (l : Int) := by omega
      have w4' : IntKind.i64.wrap ((p : Int) + 1) = (p : Int) + 1 := by rw [IntWalk.i64_left]; unfold wrap64; omega
      have hLl : L - 1 = l := by omega
      rw [hLl] at hz
      have cz : wr.cell? (ad.add l) = some (.int .i64 (z : Nat)) := hz ▸ cP l (by omega)
      have u0 : (0 : Int) ≤ (p : Int) := by omega
      have u1 : (p : Int) < (M : Int) := by omega
      have u2 : (0 : Int) ≤ (l : Int) := by omega
      have u3 : (l : Int) < (L : Int) := by omega
      have u4 : (0 : Int) < (L : Int) := by omega
      have u5 : (p : Int) < (s.size : Int) := by omega
      have u6 : (p : Int) + 1 ≤ (s.size : Int) := by omega
      have u7 : p + 1 ≤ s.size := by omega
      clear hE1 hE2 rng cP hp hz hvp hbgP hbgE hl2 hLl hgp hpl
      cases hd1 : decide (beP n vp p)
      · rw [hd1] at HE2 HBb
        have HR := Aside0.mk (HE2.out rfl)
        clear hd1
        go_wp2_with fail
        go_quiet (first | exact Calls.quiet_of (HBb.out _))
        go_wp2_with fail
        go_ret2
        exact ⟨by rw [HR.out.1, HR.out.2]; rfl, pw_below_drewN HBW.out nq⟩
      · cases hd2 : decide (enP n vp z)
        · rw [hd2] at HE2 HEe
          rw [hd1] at HBb
          have HR := Aside0.mk (HE2.out (by simp))
          clear hd1 hd2
          go_wp2_with fail
          go_quiet (first | exact Calls.quiet_of (HBb.out _) | exact Calls.quiet_of (HEe.out _))
          go_wp2_with fail
          go_ret2
          exact ⟨by rw [HR.out.1, HR.out.2]; rfl, pw_below_drewN HBW.out nq⟩
        · rw [hd1, hd2] at HE1
          rw [hd1] at HBb
          rw [hd2] at HEe
          have HR := Aside0.mk (HE1.out rfl)
          clear hd1 hd2
          go_wp2_with fail
          go_quiet (first | exact Calls.quiet_of (HBb.out _) | exact Calls.quiet_of (HEe.out _))
          have HBq := Aside0.mk (pw_below_drewN HBW.out nq)
          have c0' : (wr.drewN nq).cell? ad = some (.int .i64 (p : Nat)) := c0
          generalize wr.drewN nq = w3 at *
          go_wp2_with fail
          go_quiet (fail)
          go_wp2_with fail
          go_ret2
          exact ⟨by rw [HR.out.1, HR.out.2]; rfl, pw_below_drewN HBq.out nq⟩
end Go.Proofs.YtlmgkmmdaecpdaaDoor.Im

namespace Go.Proofs.YtlmgkmmdaecpdaaDoor.Im
open Go.RowKit Go.Proofs.YtlmgkmmdaecpdaaDoorW.PrintWords Go.Proofs.YtlmgkmmdaecpdaaDoorW.PrintLast Go.Proofs.YtlmgkmmdaecpdaaDoorW.PrintMore Go.Proofs.YtlmgkmmdaecpdaaDoor.Mi
set_option linter.unusedVariables false
set_option linter.unusedSimpArgs false
set_option maxHeartbeats 3200000 in
set_option maxRecDepth 100000 in
theorem rbridge_bad (n : Int) (s : ByteArray) (A : Option Addr) (k c : Nat) (w : World) (hs : s.size ≤ 1000000) (E : Int) (hE : boE n s xoB = E) (h0 : E ≠ 0) :
    Calls Tryd.prog 35 #[.int .i64 n, .string s, .slice A k c] w fun e w' => e = .returned (.tuple #[.string ⟨#[]⟩, .int .i64 E]) ∧ Below w.heap.size w w' := by
  have HBd := Aside0.mk (show Calls Tryd.prog 22 #[.int .i64 n, .string s, .bool false] w fun e w' => e = .returned (.int .i64 E) ∧ Below w.heap.size w w' from (show boE n s (csB false) = E from hE) ▸ board_any n s false w hs)
  have q0 : (E == 0) = false := beq_eq_false_iff_ne.2 h0
  clear hE h0
  go_enter Tryd.func35, Tryd.ntmps35
  go_wp2_with fail
  refine HBd.out.mono ?_
  rintro e w1 ⟨rfl, hb1⟩
  have HB1 := Aside0.mk hb1
  clear hb1
  go_wp2_with fail
  go_ret2
  exact ⟨rfl, HB1.out⟩
theorem rbridge_call (n : Int) (s : ByteArray) (P : List Int) (A : Option Addr) (c : Nat) (w : World) (hs : s.size ≤ 1000000) (hP : Kd.C (Kd.int .i64) w A P.length P) (hc : P.length ≤ c) (hl : P.length ≤ 1000) :
    Calls Tryd.prog 35 #[.int .i64 n, .string s, .slice A P.length c] w fun e w' => e = .returned (.tuple #[.string (bgR n s P).1, .int .i64 (bgR n s P).2]) ∧ Below w.heap.size w w' := by
  by_cases hE : boE n s xoB = 0
  · have hok := boE_ok hE
    obtain ⟨m, rfl⟩ : ∃ m : Nat, n = m := ⟨n.toNat, by omega⟩
    have e1 : (bgR m s P).1 = (if bgB m (bsOf s) P then strP (bgP (bsOf s) P) else ⟨#[]⟩) := by
      unfold bgR
      rw [if_pos hE, Int.toNat_natCast]
      split <;> rfl
    have e2 : (bgR m s P).2 = (if bgB m (bsOf s) P then 0 else 2) := by
      unfold bgR
      rw [if_pos hE, Int.toNat_natCast]
      split <;> rfl
    rw [e1, e2]
    exact rbridge_good m s P A c w hs hE hP hc hl
  · have e : bgR n s P = (⟨#[]⟩, boE n s xoB) := by unfold bgR; rw [if_neg hE]
    rw [e]
    exact rbridge_bad n s A P.length c w hs _ rfl hE
set_option maxHeartbeats 3200000 in
set_option maxRecDepth 100000 in
theorem rwinner_bad (n : Int) (s : ByteArray) (w : World) (hs : s.size ≤ 1000000) (E : Int) (hE : boE n s xoB = E) (h0 : E ≠ 0) :
    Calls Tryd.prog 32 #[.int .i64 n, .string s] w fun e w' => e = .returned (.tuple #[.string ⟨#[]⟩, .slice none 0 0, .int .i64 E]) ∧ Below w.heap.size w w' := by
  have HBd := Aside0.mk (show Calls Tryd.prog 22 #[.int .i64 n, .string s, .bool false] w fun e w' => e = .returned (.int .i64 E) ∧ Below w.heap.size w w' from (show boE n s (csB false) = E from hE) ▸ board_any n s false w hs)
  have q0 : (E == 0) = false := beq_eq_false_iff_ne.2 h0
  clear hE h0
  go_enter Tryd.func32, Tryd.ntmps32
  go_wp2_with fail
  refine HBd.out.mono ?_
  rintro e w1 ⟨rfl, hb1⟩
  have HB1 := Aside0.mk hb1
  clear hb1
  go_wp2_with fail
  go_ret3
  exact ⟨rfl, HB1.out⟩
set_option maxHeartbeats 3200000 in
set_option maxRecDepth 100000 in
theorem rwinner_good (n : Nat) (s : ByteArray) (w : World) (hs : s.size ≤ 1000000) (hE : boE n s xoB = 0) (p : Int) (hp : winB n (bsOf s) = p) :
    Calls Tryd.prog 32 #[.int .i64 n, .string s] w fun e w' => ∃ G A c, e = .returned (.tuple #[.string (strP p), .slice (some A) G.length c, .int .i64 0]) ∧ brO n (bsOf s) p = some G ∧ Kd.R (Kd.int .i64) 3 w' w.heap.size (fun _ => True) (.slice (some A) G.length c) (ints G) ∧ Below w.heap.size w w' := by
  have HBd := Aside0.mk (show Calls Tryd.prog 22 #[.int .i64 n, .string s, .bool false] w fun e w' => e = .returned (.int .i64 0) ∧ Below w.heap.size w w' from (show boE n s (csB false) = 0 from hE) ▸ board_any n s false w hs)
  have hok := boE_ok hE
  rw [Int.toNat_natCast] at hok
  have n1 : 1 ≤ n := by omega
  have n11 : n ≤ 11 := by omega
  have hone := full_one (bs := bsOf s) (n := n) n1 (fun a ha => full_byte hE (by omega))
  have HX := Aside0.mk (fun (p : Int) (hp : p = 120 ∨ p = 111) (w1 : World) => shortest_any n s p w1 n1 n11 hok.2.2 hp)
  have len0 : ∀ (w1 : World) (base : Nat) (ok : Nat → Prop) (v : Value) (G : List Nat) (q : Int), brO n (bsOf s) q = some G → Kd.R (Kd.int .i64) 3 w1 base ok v (ints ((some G).getD [])) → 0 < G.length ∧ ∃ A c, v = .slice (some A) G.length c := fun w1 base ok v G q hG hR => by
    have hF := brO_first hG
    have h0 : 0 < G.length := by
      cases G with
      | nil => exact absurd rfl hF.way.ne
      | cons a t => simp
    obtain ⟨g, c, e, _⟩ := Kd.R_form hR (by show 0 < (ints G).length; rw [ints_len]; exact h0)
    have e2 : (ints ((some G).getD [])).length = G.length := ints_len G
    rw [e2] at e
    exact ⟨h0, _, c, e⟩
  have HLen := Aside0.mk len0
  clear hE hok len0 n1 n11
  rcases hone with ⟨h1, h2, h3⟩ | ⟨h1, h2, h3⟩
  · obtain ⟨G, hG⟩ := Option.isSome_iff_exists.1 h1
    have hx := HX.out 120 (.inl rfl)
    rw [hG] at hx
    have HXX := Aside0.mk hx
    have HG := Aside0.mk hG
    obtain rfl : p = 120 := hp.symm.trans h3
    clear h1 h2 h3 hG hx hp HX
    go_enter Tryd.func32, Tryd.ntmps32
    go_wp2_with fail
    refine HBd.out.mono ?_
    rintro e w1 ⟨rfl, hb1⟩
    have HB1 := Aside0.mk hb1
    clear hb1 HBd
    go_wp2_with fail
    refine (HXX.out w1).mono ?_
    rintro e w2 ⟨v, rfl, hR, hb2⟩
    obtain ⟨hg0, A, c, rfl⟩ := HLen.out w2 _ _ v G 120 HG.out hR
    have HR2 := Aside0.mk (Kd.R_lower hR HB1.out.size)
    have HB2 := Aside0.mk (below_then HB1.out HB1.out.size hb2)
    obtain ⟨K, hK⟩ : ∃ K, G.length = K := ⟨_, rfl⟩
    have HK := Aside0.mk hK
    rw [hK] at hg0 ⊢
    have g1 : decide ((0 : Int) < (K : Int)) = true := decide_eq_true (by omega)
    have g2 : decide (0 < K) = true := decide_eq_true hg0
    clear hb2 HXX HLen hR hK
    go_wp2_with fail
    go_ret3
    refine ⟨G, A, c, ?_, HG.out, HR2.out, HB2.out⟩
    rw [HK.out]
    rfl
  · obtain ⟨G, hG⟩ := Option.isSome_iff_exists.1 h2
    have hx := HX.out 120 (.inl rfl)
    have hy := HX.out 111 (.inr rfl)
    rw [h1] at hx
    rw [hG] at hy
    have HXX := Aside0.mk hx
    have HYY := Aside0.mk hy
    have HG := Aside0.mk hG
    obtain rfl : p = 111 := hp.symm.trans h3
    clear h1 h2 h3 hG hx hy hp HX
    go_enter Tryd.func32, Tryd.ntmps32
    go_wp2_with fail
    refine HBd.out.mono ?_
    rintro e w1 ⟨rfl, hb1⟩
    have HB1 := Aside0.mk hb1
    clear hb1 HBd
    go_wp2_with fail
    refine (HXX.out w1).mono ?_
    rintro e w2 ⟨v, rfl, hR, hb2⟩
    obtain ⟨A0, c0, rfl, _, _⟩ := Kd.R_reads hR
    have HB2 := Aside0.mk (below_then HB1.out HB1.out.size hb2)
    clear hb2 HXX hR
    go_wp2_with fail
    refine (HYY.out w2).mono ?_
    rintro e w3 ⟨v, rfl, hR, hb3⟩
    obtain ⟨hg0, A, c, rfl⟩ := HLen.out w3 _ _ v G 111 HG.out hR
    have HR3 := Aside0.mk (Kd.R_lower hR HB2.out.size)
    have HB3 := Aside0.mk (below_then HB2.out HB2.out.size hb3)
    clear hb3 HYY HLen hR
    go_wp2_with fail
    go_ret3
    exact ⟨G, A, c, rfl, HG.out, HR3.out, HB3.out⟩
end Go.Proofs.YtlmgkmmdaecpdaaDoor.Im

namespace Go.Proofs.YtlmgkmmdaecpdaaDoor.Im
open Go.RowKit Go.Proofs.YtlmgkmmdaecpdaaDoorW.PrintWords Go.Proofs.YtlmgkmmdaecpdaaDoorW.PrintLast Go.Proofs.YtlmgkmmdaecpdaaDoorW.PrintMore Go.Proofs.YtlmgkmmdaecpdaaDoor.Mi
set_option linter.unusedVariables false
set_option linter.unusedSimpArgs false
theorem C_none0 (w : World) : Kd.C (Kd.int .i64) w none ([] : List Int).length [] := ⟨rfl, by simp, fun h => absurd h (by simp)⟩
set_option maxHeartbeats 6400000 in
set_option maxRecDepth 100000 in
theorem law_winners (n : Int) (s : ByteArray) (A : Option Addr) (c : Nat) (P : List Int) (w : World) (hst : Steps w) (mL : Int) (hm : w.cell? ⟨1, 0, none⟩ = some (.int .i64 mL)) (hss : s.size ≤ 9223372036854775807) (hP : Kd.C (Kd.int .i64) w A P.length P) (hc : P.length ≤ c) :
    Calls Tryd.prog 10 #[.int .i64 n, .string s, .slice A P.length c] w fun e w' => e = .returned (.bool true) ∧ Below w.heap.size w w' := by
  have HE := Aside0.mk (Env.mk hst hm)
  have HB0 := Aside0.mk (Below.refl w.heap.size w)
  have HP := Aside0.mk hP
  have HC := Aside0.mk hc
  clear hst hm hP
  obtain ⟨L, hL⟩ : ∃ L, P.length = L := ⟨_, rfl⟩
  have HL := Aside0.mk hL
  rw [hL] at hc ⊢
  clear hL
  by_cases h1 : 200 < s.size
  · have t1 : decide (200 < (s.size : Int)) = true := decide_eq_true (by omega)
    have t2 : decide (200 < s.size) = true := decide_eq_true h1
    clear h1
    go_enter Tryd.func10, Tryd.ntmps10
    go_wp2_with fail
    refine (alive_env (HE.out.later HB0.out rfl)).mono ?_
    rintro e w1 ⟨rfl, hb1⟩
    have HB1 := Aside0.mk (below_then HB0.out HB0.out.size hb1)
    clear hb1 HB0
    go_wp2_with fail
    go_ret
    exact ⟨rfl, HB1.out⟩
  have t1 : decide (200 < (s.size : Int)) = false := decide_eq_false (by omega)
  have t2 : decide (200 < s.size) = false := decide_eq_false h1
  by_cases h2 : 200 < L
  · have t3 : decide (200 < (L : Int)) = true := decide_eq_true (by omega)
    have t4 : decide (200 < L) = true := decide_eq_true h2
    clear h1 h2
    go_enter Tryd.func10, Tryd.ntmps10
    go_wp2_with fail
    refine (alive_env (HE.out.later HB0.out rfl)).mono ?_
    rintro e w1 ⟨rfl, hb1⟩
    have HB1 := Aside0.mk (below_then HB0.out HB0.out.size hb1)
    clear hb1 HB0
    go_wp2_with fail
    go_ret
    exact ⟨rfl, HB1.out⟩
  have t3 : decide (200 < (L : Int)) = false := decide_eq_false (by omega)
  have t4 : decide (200 < L) = false := decide_eq_false h2
  have hL200 : L ≤ 200 := by omega
  have hs1 : s.size ≤ 1000000 := by omega
  obtain ⟨⟨u, g⟩, hu⟩ : ∃ r, bgR n s P = r := ⟨_, rfl⟩
  have HB1r := Aside0.mk (fun (A : Option Addr) (c : Nat) (w1 : World) (h : Env w1 mL) (hQ : Kd.C (Kd.int .i64) w1 A P.length P) (hc : P.length ≤ c) => (show Calls Tryd.prog 34 #[.int .i64 n, .string s, .slice A L c] w1 fun e w' => e = .returned (.tuple #[.string u, .int .i64 g]) ∧ Below w1.heap.size w1 w' from by
    have := bridge_call n s P A c w1 h.st hss hQ hc
    rw [hu, HL.out] at this
    exact this))
  have HB2r := Aside0.mk (fun (w1 : World) (hQ : Kd.C (Kd.int .i64) w1 A P.length P) => (show Calls Tryd.prog 35 #[.int .i64 n, .string s, .slice A L c] w1 fun e w' => e = .returned (.tuple #[.string u, .int .i64 g]) ∧ Below w1.heap.size w1 w' from by
    have := rbridge_call n s P A c w1 hs1 hQ HC.out (by rw [HL.out]; omega)
    rw [hu, HL.out] at this
    exact this))
  clear hu
  have huu : (u.toList == u.toList) = true := beq_self_eq_true _
  obtain ⟨E, hE⟩ : ∃ E, boE n s xoB = E := ⟨_, rfl⟩
  by_cases h0 : E = 0
  · subst h0
    have hok := boE_ok hE
    obtain ⟨m, rfl⟩ : ∃ m : Nat, n = m := ⟨n.toNat, by omega⟩
    obtain ⟨p, hp⟩ : ∃ p, winB m (bsOf s) = p := ⟨_, rfl⟩
    have HW := Aside0.mk (fun (w1 : World) (h : Env w1 mL) => winner_env h m s hss hE p hp)
    have HWr := Aside0.mk (fun (w1 : World) => rwinner_good m s w1 hs1 hE p hp)
    simp only [Int.toNat_natCast] at HW
    have HOK : Aside0 (m ≤ 11) := ⟨by have := hok.2.1; omega⟩
    clear hE hok hp h1 h2
    generalize strP p = sp at *
    have hsp : (sp.toList == sp.toList) = true := beq_self_eq_true _
    go_enter Tryd.func10, Tryd.ntmps10
    go_wp2_with fail
    refine (HW.out w HE.out).mono ?_
    rintro e w1 ⟨G, A1, c1, rfl, hG, hR1, hb1⟩
    obtain ⟨-, hl1, hC1⟩ := Kd.R_reads' hR1
    have HC1 := Aside0.mk hC1
    have HG := Aside0.mk hG
    have HB1 := Aside0.mk hb1
    have HL1 := Aside0.mk hl1
    clear hG hR1 hl1 hC1 hb1 HW
    go_wp2_with fail
    refine (HWr.out w1).mono ?_
    rintro e w2 ⟨G', A2, c2, rfl, hG, hR2, hb2⟩
    obtain rfl : G = G' := Option.some.inj (HG.out.symm.trans hG)
    obtain ⟨-, hl2, hC2⟩ := Kd.R_reads' hR2
    have HC2 := Aside0.mk hC2
    have HC12 := Aside0.mk (Kd.C_below HC1.out hb2)
    have HB2 := Aside0.mk (below_then HB1.out HB1.out.size hb2)
    have hGl := brO_first hG
    have hfew : G.length ≤ m * m := nodup_len _ G (dist_nodup hGl.way hGl.dist) (fun x hx => (hGl.way.mem x hx).1)
    have hm1 : (ints G).length < 1000000 := by
      have hgl := hGl.way
      rw [ints_len]
      by_cases hk : m ≤ 11
      · have : m * m ≤ 121 := Nat.mul_le_mul hk hk
        omega
      · exfalso
        exact hk HOK.out
    have hsame := same_any (ints G) (ints G) (some A1) (some A2) c1 c2 w2 hm1 HC12.out (by rw [ints_len]; exact HL1.out) HC2.out (by rw [ints_len]; exact hl2)
    rw [ints_len, show decide (ints G = ints G) = true from decide_eq_true rfl] at hsame
    have HSm := Aside0.mk hsame
    clear hG hR2 hl2 hC2 hb2 HWr hGl hfew hm1 hsame HC1 HC2 HC12 HB1
    generalize G.length = K at *
    go_wp2_with fail
    refine (HSm.out).mono ?_
    rintro e w3 ⟨rfl, hb3⟩
    have HB3 := Aside0.mk (below_then HB2.out HB2.out.size hb3)
    clear hb3 HB2
    have HP3 := Aside0.mk (Kd.C_below HP.out HB3.out)
    go_wp2_with (first | ((with_reducible refine gate_dst (N := 51) rfl ?_); refine Kd.R_lit (Kd.int .i64) _ 3 ?hg (N := 51) ?hd (xs := ([] : List Int)) (inner := []) (ok := fun _ => True) (okp := fun _ => True) ?hr ?hp (fun _ hk => hk) trivial (Below.refl _ _) (Nat.le_refl _) (by simp) ?_; (case hd => rfl); (case hg => rfl); (case hr => first | (go_simp; done) | (go_simp; rfl)); (case hp => exact Reps.none _ _); intro v2 w4 ho2 hb2 hg2_ hn2_; clear hg2_ hn2_; have HO2 := Aside0.mk ho2; have HB4 := Aside0.mk hb2; have HR4 := Aside0.mk (Kd.C_below HP3.out hb2); clear ho2 hb2) | ((with_reducible refine gate_builtin (b := .append) (xs := #[.tmp 51, .tmp 52]) rfl ?_); at_builtin; refine Kd.R_append_rows (Kd.int .i64) (Rr := (Kd.int .i64).K w4) (w0 := w3) w3.heap.size rfl (.tmp 51) (.tmp 52) 34 3 (.int .i64 0) 8 rfl Tryd.underlying34 info3 rfl (by decide) (by decide) v2 [] P A L c (fun _ => True) (fun _ => False) rfl rfl HO2.out (HL.out ▸ HR4.out) (fun x cs h => h) (fun _ hk => hk.elim) (fun _ _ => trivial) HB4.out HB4.out.size (by simp; have := HL.out; omega) ?_; intro v3 w5 ho3 hb3 hg3 hat3; have HO5 := Aside0.mk ho3; have HBx := Aside0.mk hb3; clear ho3 hb3 hg3 hat3))
    obtain ⟨A5, c5, rfl, hl5, hC5⟩ := Kd.R_reads HO5.out
    rw [List.nil_append] at hl5 hC5 ⊢
    rw [HL.out]
    have HC5 := Aside0.mk hC5
    have HL5 := Aside0.mk hl5
    have HB5 := Aside0.mk (below_then HB3.out HB3.out.size HBx.out)
    clear hl5 hC5 HO5 HBx HO2 HB4 HR4 HP3
    refine (HB1r.out A5 c5 w5 (HE.out.later HB5.out rfl) HC5.out HL5.out).mono ?_
    rintro e w6 ⟨rfl, hb6⟩
    have HC6 := Aside0.mk (Kd.C_below HC5.out hb6)
    have HB6 := Aside0.mk (below_then HB5.out HB5.out.size hb6)
    clear hb6 HB5 HC5 HB1r
    go_wp2_with fail
    refine (HB2r.out w6 (Kd.C_below HP.out HB6.out)).mono ?_
    rintro e w7 ⟨rfl, hb7⟩
    have HC7 := Aside0.mk (Kd.C_below HC6.out hb7)
    have HB7 := Aside0.mk (below_then HB6.out HB6.out.size hb7)
    clear hb7 HB6 HC6 HB2r
    have hsm2 := same_any P P A5 A c5 c w7 (by rw [HL.out]; omega) HC7.out HL5.out (Kd.C_below HP.out HB7.out) HC.out
    rw [show decide (P = P) = true from decide_eq_true rfl, HL.out] at hsm2
    have HS2 := Aside0.mk hsm2
    clear hsm2 HC7
    go_wp2_with fail
    refine HS2.out.mono ?_
    rintro e w8 ⟨rfl, hb8⟩
    have HB8 := Aside0.mk (below_then HB7.out HB7.out.size hb8)
    clear hb8 HB7 HS2
    go_wp2_with fail
    refine (alive_env (HE.out.later HB8.out rfl)).mono ?_
    rintro e w9 ⟨rfl, hb9⟩
    have HB9 := Aside0.mk (below_then HB8.out HB8.out.size hb9)
    clear hb9 HB8
    go_wp2_with fail
    go_ret
    exact ⟨rfl, HB9.out⟩
  · have q0 : (E == 0) = false := beq_eq_false_iff_ne.2 h0
    have HW := Aside0.mk (fun (w1 : World) (h : Env w1 mL) => winner_bad h n s hss E hE h0)
    have HWr := Aside0.mk (fun (w1 : World) => rwinner_bad n s w1 hs1 E hE h0)
    have HSx := Aside0.mk (fun (w1 : World) => (show Calls Tryd.prog 33 #[.slice none 0 0, .slice none 0 0] w1 fun e w' => e = .returned (.bool true) ∧ Below w1.heap.size w1 w' from same_any [] [] none none 0 0 w1 (by decide) (C_none0 w1) (by decide) (C_none0 w1) (by decide)))
    clear h0 hE h1 h2
    go_enter Tryd.func10, Tryd.ntmps10
    go_wp2_with fail
    refine (HW.out w HE.out).mono ?_
    rintro e w1 ⟨rfl, hb1⟩
    have HB1 := Aside0.mk (below_then HB0.out HB0.out.size hb1)
    clear hb1 HB0
    go_wp2_with fail
    refine (HWr.out w1).mono ?_
    rintro e w2 ⟨rfl, hb2⟩
    have HB2 := Aside0.mk (below_then HB1.out HB1.out.size hb2)
    clear hb2 HB1
    have HSm := Aside0.mk (HSx.out w2)
    go_wp2_with fail
    refine (HSm.out).mono ?_
    rintro e w3 ⟨rfl, hb3⟩
    have HB3 := Aside0.mk (below_then HB2.out HB2.out.size hb3)
    clear hb3 HB2
    have HP3 := Aside0.mk (Kd.C_below HP.out HB3.out)
    go_wp2_with (first | ((with_reducible refine gate_dst (N := 51) rfl ?_); refine Kd.R_lit (Kd.int .i64) _ 3 ?hg (N := 51) ?hd (xs := ([] : List Int)) (inner := []) (ok := fun _ => True) (okp := fun _ => True) ?hr ?hp (fun _ hk => hk) trivial (Below.refl _ _) (Nat.le_refl _) (by simp) ?_; (case hd => rfl); (case hg => rfl); (case hr => first | (go_simp; done) | (go_simp; rfl)); (case hp => exact Reps.none _ _); intro v2 w4 ho2 hb2 hg2_ hn2_; clear hg2_ hn2_; have HO2 := Aside0.mk ho2; have HB4 := Aside0.mk hb2; have HR4 := Aside0.mk (Kd.C_below HP3.out hb2); clear ho2 hb2) | ((with_reducible refine gate_builtin (b := .append) (xs := #[.tmp 51, .tmp 52]) rfl ?_); at_builtin; refine Kd.R_append_rows (Kd.int .i64) (Rr := (Kd.int .i64).K w4) (w0 := w3) w3.heap.size rfl (.tmp 51) (.tmp 52) 34 3 (.int .i64 0) 8 rfl Tryd.underlying34 info3 rfl (by decide) (by decide) v2 [] P A L c (fun _ => True) (fun _ => False) rfl rfl HO2.out (HL.out ▸ HR4.out) (fun x cs h => h) (fun _ hk => hk.elim) (fun _ _ => trivial) HB4.out HB4.out.size (by simp; have := HL.out; omega) ?_; intro v3 w5 ho3 hb3 hg3 hat3; have HO5 := Aside0.mk ho3; have HBx := Aside0.mk hb3; clear ho3 hb3 hg3 hat3))
    obtain ⟨A5, c5, rfl, hl5, hC5⟩ := Kd.R_reads HO5.out
    rw [List.nil_append] at hl5 hC5 ⊢
    rw [HL.out]
    have HC5 := Aside0.mk hC5
    have HL5 := Aside0.mk hl5
    have HB5 := Aside0.mk (below_then HB3.out HB3.out.size HBx.out)
    clear hl5 hC5 HO5 HBx HO2 HB4 HR4 HP3
    refine (HB1r.out A5 c5 w5 (HE.out.later HB5.out rfl) HC5.out HL5.out).mono ?_
    rintro e w6 ⟨rfl, hb6⟩
    have HC6 := Aside0.mk (Kd.C_below HC5.out hb6)
    have HB6 := Aside0.mk (below_then HB5.out HB5.out.size hb6)
    clear hb6 HB5 HC5 HB1r
    go_wp2_with fail
    refine (HB2r.out w6 (Kd.C_below HP.out HB6.out)).mono ?_
    rintro e w7 ⟨rfl, hb7⟩
    have HC7 := Aside0.mk (Kd.C_below HC6.out hb7)
    have HB7 := Aside0.mk (below_then HB6.out HB6.out.size hb7)
    clear hb7 HB6 HC6 HB2r
    have hsm2 := same_any P P A5 A c5 c w7 (by rw [HL.out]; omega) HC7.out HL5.out (Kd.C_below HP.out HB7.out) HC.out
    rw [show decide (P = P) = true from decide_eq_true rfl, HL.out] at hsm2
    have HS2 := Aside0.mk hsm2
    clear hsm2 HC7
    go_wp2_with fail
    refine HS2.out.mono ?_
    rintro e w8 ⟨rfl, hb8⟩
    have HB8 := Aside0.mk (below_then HB7.out HB7.out.size hb8)
    clear hb8 HB7 HS2
    go_wp2_with fail
    refine (alive_env (HE.out.later HB8.out rfl)).mono ?_
    rintro e w9 ⟨rfl, hb9⟩
    have HB9 := Aside0.mk (below_then HB8.out HB8.out.size hb9)
    clear hb9 HB8
    go_wp2_with fail
    go_ret
    exact ⟨rfl, HB9.out⟩
end Go.Proofs.YtlmgkmmdaecpdaaDoor.Im

