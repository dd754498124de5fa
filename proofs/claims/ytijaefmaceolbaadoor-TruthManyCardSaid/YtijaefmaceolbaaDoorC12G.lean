/- Further parts of the same walk: contracts of the functions that the law reaches, each under the conditions that it states. -/
import Derived.Test.YtijaefmaceolbaaDoorC12F
import Derived.WalkMore
namespace Go.Proofs.YtijaefmaceolbaaDoor.Im
open Go.RowKit Go.Proofs.YtijaefmaceolbaaDoorW.PrintWords Go.Proofs.YtijaefmaceolbaaDoorW.PrintLast Go.Proofs.YtijaefmaceolbaaDoorW.PrintMore Go.Proofs.YtijaefmaceolbaaDoor.Tr
set_option linter.unusedVariables false
set_option linter.unusedSimpArgs false
def letT (k : Nat) : List (List UInt8) := (List.range k).map fun i => [UInt8.ofNat (97 + i)]
def lettF (k : Nat) : List Fm := (List.range k).map Fm.lt
theorem let_sys {k : Nat} (h : 7 ≤ k) (h' : k ≤ 10) : sysE (letT k) = 0 ∧ sysF (letT k) = lettF k := by
  have : k = 7 ∨ k = 8 ∨ k = 9 ∨ k = 10 := by omega
  rcases this with rfl | rfl | rfl | rfl <;> exact ⟨by kernel_rfl, by kernel_rfl⟩
theorem let_len (k : Nat) : (letT k).length = k := by simp [letT]
theorem let_next {k : Nat} {v : List T3} (h : v.length = k) : nextV (lettF k) v = v := by
  unfold nextV lettF
  rw [List.map_map]
  apply List.ext_getElem
  · simp [h]
  · intro i h1 h2
    simp [getV, ev, h2]
theorem let_fix {k : Nat} (h : 7 ≤ k) : 1000 < (fixL (lettF k)).length := by
  have hl : (lettF k).length = k := by simp [lettF]
  have e : fixL (lettF k) = valsB base3 k := by
    unfold fixL
    rw [hl, List.filter_eq_self]
    intro v hv
    have := (mem_valsB.1 hv).1
    unfold fixB
    exact decide_eq_true (let_next this)
  rw [e, vals_len (by decide)]
  have : 3 ^ 7 ≤ 3 ^ k := Nat.pow_le_pow_right (by decide) h
  have e2 : base3.length = 3 := rfl
  rw [e2]
  have e3 : 3 ^ 7 = 2187 := rfl
  omega
theorem let_iter {k : Nat} {v : List T3} (h : v.length = k) : ∀ m, iterV (lettF k) m v = v
  | 0 => rfl
  | m + 1 => by rw [iterV, let_iter h m, let_next h]
theorem let_least (k : Nat) : leastV (lettF k) = noneV k := by
  have hl : (lettF k).length = k := by simp [lettF]
  unfold leastV
  rw [hl, let_iter (by simp [noneV])]
theorem intrinsic_full {l : List (List UInt8)} (h0 : sysE l = 0) (hm : 1000 < (fixL (sysF l)).length) (w : World) (A : Option Addr) (c : Nat) (hr : Kd.C Kd.string w A l.length (l.map strL)) :
    Calls Tryd.prog 39 #[.slice A l.length c] w (fun e w' => e = .returned (.tuple #[.string ⟨#[]⟩, .int .i64 8]) ∧ Below w.heap.size w w') := by
  have S := sys_ok h0
  have HO := Aside0.mk (of_good h0 w A c hr)
  have hf := run_fix S
  obtain ⟨n, hn⟩ : ∃ n, l.length = n := ⟨_, rfl⟩
  rw [hn] at HO S hf ⊢
  have HE := Aside0.mk (fun (w1 : World) (A : Option Addr) (c : Nat) (hC : Kd.C kF w1 A n (sysF l)) (hc : n ≤ c) => fixed_any S w1 A c hC hc)
  generalize runV (visX (sysF l)) (valsB base3 n) [] = r at *
  obtain ⟨b, out⟩ := r
  have hb : b = true := hf.1.trans (decide_eq_true hm)
  subst hb
  clear hr S h0 hn hf hm
  go_enter Tryd.func39, Tryd.ntmps39
  go_wp2_with fail
  go_step3
  go_wp2_with fail
  refine HO.out.mono ?_
  rintro e w1 ⟨A1, c1, hc1, rfl, hC, hb⟩
  have HC := Aside0.mk hC
  have HB := Aside0.mk hb
  have HCC := Aside0.mk hc1
  clear hC hb hc1
  go_wp2_with fail
  refine (HE.out _ _ _ HC.out HCC.out).mono ?_
  rintro e w2 ⟨v, rfl, hR, hb2⟩
  have HB2 := Aside0.mk (below_then HB.out HB.out.size hb2)
  clear hR hb2
  go_wp2_with fail
  (try rw [Exit.noGoto_ret])
  go_ret2
  exact ⟨rfl, HB2.out⟩
end Go.Proofs.YtijaefmaceolbaaDoor.Im

namespace Go.Proofs.YtijaefmaceolbaaDoor.Im
open Go.RowKit Go.Proofs.YtijaefmaceolbaaDoorW.PrintWords Go.Proofs.YtijaefmaceolbaaDoorW.PrintLast Go.Proofs.YtijaefmaceolbaaDoorW.PrintMore Go.Proofs.YtijaefmaceolbaaDoor.Tr
set_option linter.unusedVariables false
set_option linter.unusedSimpArgs false
theorem infoTx : (Tryd.prog.info? 9).map (fun i => (i.zero, i.size, i.bytes)) = some (some (.string ⟨#[]⟩), 1, 16) := info9
theorem strL_let (i : Nat) (h : i < 10) : strL [UInt8.ofNat (97 + i)] = strOfNums [((97 + i : Nat) : Int)] := by
  have : i = 0 ∨ i = 1 ∨ i = 2 ∨ i = 3 ∨ i = 4 ∨ i = 5 ∨ i = 6 ∨ i = 7 ∨ i = 8 ∨ i = 9 := by omega
  rcases this with rfl | rfl | rfl | rfl | rfl | rfl | rfl | rfl | rfl | rfl <;> rfl
theorem conv_one (W : World) (y : Int) : (convert 49 9 (.slice (some ⟨W.heap.size, 0, none⟩) 1 1)).run Tryd.prog (W.alloc (.cells #[.int .u8 y] 5)) = .ok (.string (strOfNums [y])) (W.alloc (.cells #[.int .u8 y] 5)) := by
  refine run_convert_bytes_arg _ 49 5 Tryd.underlying49 Tryd.underlying5 W.heap.size 0 1 1 [y] rfl (fun i hi => ?_) 9 Tryd.underlying9
  obtain rfl : i = 0 := by omega
  have := (Blk.new W 5 #[.int .u8 y]).cell 0
  rw [Nat.zero_add]
  exact this
theorem strV_none (i : Nat) : strV (noneV i) ++ ⟨#[63]⟩ = strV (noneV (i + 1)) := by
  have h := strV_snoc (noneV i) none
  have e : noneV (i + 1) = noneV i ++ [none] := List.replicate_succ'
  rw [e, ← h]
  rfl
set_option maxHeartbeats 3200000 in
set_option maxRecDepth 100000 in
theorem law14_any (a : Int) (w : World) (ha : (Lit.int .u8 a).wf = true) :
    Calls Tryd.prog 12 #[.int .u8 a] w fun e w' => e = .returned (.bool true) ∧ Below w.heap.size w w' := by
  have ha1 : 0 ≤ a ∧ a < 256 := by
    have h := ha
    have h2 : IntKind.u8.min = 0 := by rfl
    have h3 : IntKind.u8.max = 255 := by rfl
    simp [Lit.wf, h2, h3] at h
    omega
  obtain ⟨k, hk, hk7, hk10⟩ : ∃ k : Nat, 7 + a % 4 = (k : Int) ∧ 7 ≤ k ∧ k ≤ 10 := ⟨(7 + a % 4).toNat, by omega, by omega, by omega⟩
  obtain ⟨hs0, hsf⟩ := let_sys hk7 hk10
  have hful := let_fix hk7
  have ef : fixedO (letT k) = ([], 8) := by unfold fixedO; rw [if_pos hs0, hsf, if_pos hful]
  have el : leastO (letT k) = (strV (noneV k), 0) := by unfold leastO; rw [if_pos hs0, hsf, let_least]
  have HFX := Aside0.mk (fun (w1 : World) (A : Option Addr) (c : Nat) (hC : Kd.C Kd.string w1 A (letT k).length ((letT k).map strL)) => fixed_call (letT k) w1 A c hC)
  have HIN := Aside0.mk (fun (w1 : World) (A : Option Addr) (c : Nat) (hC : Kd.C Kd.string w1 A (letT k).length ((letT k).map strL)) => intrinsic_full hs0 (by rw [hsf]; exact hful) w1 A c hC)
  have HLE := Aside0.mk (fun (w1 : World) (A : Option Addr) (c : Nat) (hC : Kd.C Kd.string w1 A (letT k).length ((letT k).map strL)) => least_call (letT k) w1 A c hC)
  rw [ef] at HFX
  rw [el] at HLE
  rw [let_len] at HFX HIN HLE
  have HT := Aside0.mk (show ∀ i, i < k → ((letT k).map strL).take (i + 1) = ((letT k).map strL).take i ++ [strOfNums [((97 + i : Nat) : Int)]] from fun i hi => by
    rw [List.take_succ_eq_append_getElem (by simp [letT]; exact hi), ← strL_let i (by omega)]
    simp [letT])
  have hlt : ((letT k).map strL).length = k := by simp [letT]
  have HLT := Aside0.mk hlt
  clear ef el hful hsf hs0 hlt
  generalize (letT k).map strL = T at *
  have kz := hk
  have hw1 : wrap64 (7 + a % 4) = (k : Int) := by rw [hk]; unfold wrap64; omega
  go_enter Tryd.func12, Tryd.ntmps12
  go_wp2_with fail
  clear hk hw1 kz ha ha1
  have HN0 := Aside0.mk (show Value.string ⟨#[]⟩ = .string (strV (noneV 0)) from rfl)
  have HR0 := Aside0.mk (show Kd.R Kd.string 9 w w.heap.size (fun _ => True) (.slice none 0 0) (T.take 0) from Kd.R_nil _ _ _ _ _)
  have HBS := Aside0.mk (Below.refl w.heap.size w)
  go_loopw [4, 5, 6] (fun v4 v5 v6 wr => ∃ i : Nat, i ≤ k ∧ v5 = .string (strV (noneV i)) ∧ v6 = .int .i64 (i : Int) ∧ Aside0 (Below w.heap.size w wr) ∧ Aside0 (Kd.R Kd.string 9 wr w.heap.size (fun _ => True) v4 (T.take i))) (fun _ _ v6 _ => k - (intOf v6).toNat)
  case atStart => exact ⟨0, by omega, HN0.out, rfl, HBS, HR0⟩
  case round =>
    clear HBS HR0 HN0
    obtain ⟨i, hi, rfl, rfl, HB, HR⟩ := hrel
    have i0 : (0 : Int) ≤ (i : Int) := by omega
    by_cases hik : i < k
    · have hik' : (i : Int) < (k : Int) := by omega
      have hl4 : (T.take i).length = i := by rw [List.length_take]; have := HLT.out; omega
      obtain ⟨A4, c4, rfl⟩ := Kd.R_slice HR.out
      rw [hl4] at HR ⊢
      have HL4 := Aside0.mk hl4
      have hw1 : wrap64 (97 + (i : Int)) = 97 + (i : Int) := by unfold wrap64; omega
      have hw2 : IntKind.u8.wrap (97 + (i : Int)) = 97 + (i : Int) := by rw [show IntKind.u8.wrap (97 + (i : Int)) = (97 + (i : Int)) % 256 from rfl]; omega
      have hcv := conv_one wr (97 + (i : Int))
      have HTS := Aside0.mk (HT.out i hik)
      have hsn : ¬ 9223372036854775807 < (strV (noneV i)).size + 1 := by rw [strV_size]; simp [noneV]; omega
      have hsn2 : (strV (noneV i)).size + 1 ≤ 9223372036854775807 := by omega
      have HSN := Aside0.mk (strV_none i)
      have hbn : Below wr.heap.size wr (wr.alloc (.cells #[.int .u8 (97 + (i : Int))] 5)) := below_alloc (Below.refl _ _) _
      have HX := Aside0.mk (show Kd.R Kd.string 9 (wr.alloc (.cells #[.int .u8 (97 + (i : Int))] 5)) w.heap.size (fun _ => True) (.slice A4 i c4) (T.take i) from Kd.R_below HR.out hbn)
      have HBX := Aside0.mk (show Below w.heap.size w (wr.alloc (.cells #[.int .u8 (97 + (i : Int))] 5)) from below_then HB.out HB.out.size hbn)
      have HSZ := Aside0.mk (show (wr.alloc (.cells #[.int .u8 (97 + (i : Int))] 5)).heap.size = wr.heap.size + 1 from by simp)
      have e97 : ((97 + i : Nat) : Int) = 97 + (i : Int) := by omega
      rw [e97] at HTS
      clear hl4 hbn e97
      go_wp2_with (first | ((with_reducible refine gate_builtin (b := .append) (xs := #[.tmp 22, .tmp 28]) rfl ?_); at_builtin; refine Kd.R_append Kd.string (w0 := w) w.heap.size rfl (.tmp 22) (.tmp 28) 22 9 (.string ⟨#[]⟩) 16 rfl Tryd.underlying22 infoTx rfl (by decide) (by omega) _ (T.take i) (strOfNums [97 + (i : Int)]) [.string (strOfNums [97 + (i : Int)])] (fun _ => True) (fun _ => False) rfl (by rw [HSZ.out]; rfl) ?aP (fun _ hk => hk.elim) ?aF ?aO ?aB ?aS ?aL ?_; (case aP => exact rfl); (case aF => exact (fun _ _ => trivial)); (case aO => exact HX.out); (case aB => exact HBX.out); (case aS => exact HBX.out.size); (case aL => have := HL4.out; omega); intro v9 w9 ho hb hg hat; rw [← HTS.out] at ho; have HR9 := Aside0.mk ho; have HB9 := Aside0.mk hb; clear ho hb hg hat))
      go_roundw
      case rel => exact ⟨i + 1, by omega, by rw [HSN.out], by go_num, HB9, HR9⟩
      case measure => simp [intOf]; omega
    · obtain rfl : k = i := by omega
      have htk := HR.out
      rw [List.take_of_length_le (by rw [HLT.out]; exact Nat.le_refl _)] at htk
      obtain ⟨A5, c5, rfl, h5, hC5⟩ := Kd.R_reads htk
      rw [HLT.out] at hC5 ⊢
      have HC5 := Aside0.mk hC5
      clear htk hC5 h5 HR hik
      have hself : ((strV (noneV k)).toList == (strV (noneV k)).toList) = true := by simp
      generalize strV (noneV k) = sn at *
      go_wp2_with fail
      refine (HFX.out _ _ _ HC5.out).mono ?_
      rintro e w1 ⟨v, rfl, hv, hb1⟩
      obtain ⟨A6, c6, rfl⟩ := Kd.R_slice hv
      have HB1 := Aside0.mk (below_then HB.out HB.out.size hb1)
      have HC6 := Aside0.mk (Kd.C_below HC5.out hb1)
      clear hv hb1
      go_wp2_with fail
      refine (HIN.out _ _ _ HC6.out).mono ?_
      rintro e w2 ⟨rfl, hb2⟩
      have HB2 := Aside0.mk (below_then HB1.out HB1.out.size hb2)
      have HC7 := Aside0.mk (Kd.C_below HC6.out hb2)
      clear hb2
      go_wp2_with fail
      refine (HLE.out _ _ _ HC7.out).mono ?_
      rintro e w3 ⟨rfl, hb3⟩
      have HB3 := Aside0.mk (below_then HB2.out HB2.out.size hb3)
      clear hb3
      go_wp2_with fail
      refine (alive_any _).mono ?_
      rintro e w4 ⟨rfl, hb4⟩
      have HB4 := Aside0.mk (below_then HB3.out HB3.out.size hb4)
      clear hb4
      go_wp2_with fail
      go_ret
      exact ⟨rfl, HB4.out⟩
end Go.Proofs.YtijaefmaceolbaaDoor.Im

