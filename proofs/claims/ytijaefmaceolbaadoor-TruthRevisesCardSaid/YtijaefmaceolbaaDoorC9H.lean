/- Further parts of the same walk: contracts of the functions that the law reaches, each under the conditions that it states. -/
import Derived.Test.YtijaefmaceolbaaDoorC9G
namespace Go.Proofs.YtijaefmaceolbaaDoor.Im
open Go.RowKit Go.Proofs.YtijaefmaceolbaaDoorW.PrintWords Go.Proofs.YtijaefmaceolbaaDoorW.PrintLast Go.Proofs.YtijaefmaceolbaaDoorW.PrintMore Go.Proofs.YtijaefmaceolbaaDoor.Tr
set_option linter.unusedVariables false
set_option linter.unusedSimpArgs false
/-- What lies in the bytes while two valuations are laid on one another. -/
def mixV (o w : List T3) (i : Nat) : List T3 := (bothV o w).take i ++ o.drop i
theorem mixV_zero (o w : List T3) : mixV o w 0 = o := by simp [mixV]
theorem mixV_all {o w : List T3} {i : Nat} (h : o.length ≤ i) : mixV o w i = bothV o w := by
  unfold mixV
  rw [List.take_of_length_le (by rw [bothV_len]; exact h), List.drop_of_length_le h, List.append_nil]
theorem mixV_len {o w : List T3} {i : Nat} (h : i ≤ o.length) : (mixV o w i).length = o.length := by
  unfold mixV
  rw [List.length_append, List.length_take, List.length_drop, bothV_len]; omega
theorem mixV_at {o w : List T3} {i : Nat} (h : i < o.length) : getV (mixV o w i) i = getV o i := by
  unfold getV mixV
  rw [List.getD_eq_getElem?_getD, List.getD_eq_getElem?_getD, List.getElem?_append_right (by rw [List.length_take, bothV_len]; omega), List.length_take, bothV_len, List.getElem?_drop]
  congr 2
  omega
theorem mixV_set {o w : List T3} {i : Nat} (h : i < o.length) : (mixV o w i).set i (both3 (getV o i) (getV w i)) = mixV o w (i + 1) := by
  have hb : i < (bothV o w).length := by rw [bothV_len]; exact h
  have e : both3 (getV o i) (getV w i) = (bothV o w)[i] := by
    rw [← getV_both h]
    simp [getV, hb]
  have hl : ((bothV o w).take i).length = i := by rw [List.length_take, bothV_len]; omega
  unfold mixV
  rw [e, List.set_append_right _ _ (by omega), hl, Nat.sub_self, List.drop_eq_getElem_cons h, List.set_cons_zero, List.take_succ_eq_append_getElem hb, List.append_assoc]
  rfl
theorem mixV_same {o w : List T3} {i : Nat} (h : i < o.length) (he : getV o i = getV w i) : mixV o w (i + 1) = mixV o w i := by
  rw [← mixV_set h]
  have : both3 (getV o i) (getV w i) = (mixV o w i)[i]'(by rw [mixV_len (by omega)]; exact h) := by
    have h2 : getV (mixV o w i) i = (mixV o w i)[i]'(by rw [mixV_len (by omega)]; exact h) := by
      have : i < (mixV o w i).length := by rw [mixV_len (by omega)]; exact h
      simp [getV, this]
    rw [← h2, mixV_at h, he]
    unfold both3
    rw [if_pos rfl]
  rw [this, List.set_getElem_self]
/-- What the visitor keeps: nothing, or bytes in a block of their own. -/
def StI (n : Nat) (w0 : World) (gs go : Nat) (sl : Value) (pr : Nat → Prop) (st : Option (List T3)) (w : World) : Prop :=
  match st with
  | none => Own2 w0 gs go 49 sl (.slice none 0 0) pr w
  | some o => ∃ gb cap, Own2 w0 gs go 49 sl (.slice (some ⟨gb, 0, none⟩) n cap) pr w ∧ BRow w gb n o ∧ ¬ pr gb ∧ w0.heap.size ≤ gb
theorem StI.own {n : Nat} {w0 w : World} {gs go : Nat} {sl : Value} {pr : Nat → Prop} {st : Option (List T3)} (h : StI n w0 gs go sl pr st w) : ∃ u, Own2 w0 gs go 49 sl u pr w := by
  cases st with
  | none => exact ⟨_, h⟩
  | some o => obtain ⟨gb, cap, h1, _⟩ := h; exact ⟨_, h1⟩
theorem StI.step {n : Nat} {w0 w w' : World} {gs go : Nat} {sl : Value} {pr pr' : Nat → Prop} {st : Option (List T3)} (h : StI n w0 gs go sl pr st w) (k : Keep (fun i => ¬ pr i) w w') (hp : ∀ i, pr' i → pr i ∨ (w.heap.size ≤ i ∧ i < w'.heap.size)) : StI n w0 gs go sl pr' st w' := by
  cases st with
  | none => exact Own2.step h k hp
  | some o =>
    obtain ⟨gb, cap, h1, h2, h3, h4⟩ := h
    refine ⟨gb, cap, h1.step k hp, h2.keep k h3, fun hh => ?_, h4⟩
    rcases hp gb hh with h5 | h5
    · exact h3 h5
    · have := h2.lt; omega
theorem StI.below {n : Nat} {w0 w w' : World} {gs go : Nat} {sl : Value} {pr : Nat → Prop} {st : Option (List T3)} (h : StI n w0 gs go sl pr st w) (k : Below w.heap.size w w') : StI n w0 gs go sl pr st w' := h.step (Keep.of_below k) (fun _ hi => .inl hi)
/-- The same, in a block that is not a given one. -/
def StJ (nb n : Nat) (w0 : World) (gs go : Nat) (sl : Value) (pr : Nat → Prop) (st : Option (List T3)) (w : World) : Prop :=
  match st with
  | none => Own2 w0 gs go 49 sl (.slice none 0 0) pr w
  | some o => ∃ gb cap, Own2 w0 gs go 49 sl (.slice (some ⟨gb, 0, none⟩) n cap) pr w ∧ BRow w gb n o ∧ ¬ pr gb ∧ w0.heap.size ≤ gb ∧ gb ≠ nb
theorem StJ.out {nb n : Nat} {w0 w : World} {gs go : Nat} {sl : Value} {pr : Nat → Prop} {st : Option (List T3)} (h : StJ nb n w0 gs go sl pr st w) : StI n w0 gs go sl pr st w := by
  cases st with
  | none => exact h
  | some o => obtain ⟨gb, cap, h1, h2, h3, h4, _⟩ := h; exact ⟨gb, cap, h1, h2, h3, h4⟩
theorem StI.toJ {nb n : Nat} {w0 w w' : World} {gs go : Nat} {sl : Value} {pr : Nat → Prop} {st : Option (List T3)} (h : StI n w0 gs go sl pr st w) (hn : w.heap.size ≤ nb) (k : Below w.heap.size w w') : StJ nb n w0 gs go sl pr st w' := by
  cases st with
  | none => exact Own2.below h k
  | some o => obtain ⟨gb, cap, h1, h2, h3, h4⟩ := h; exact ⟨gb, cap, h1.below k, h2.later k, h3, h4, by have := h2.lt; omega⟩
theorem cf72 (args : Array Value) (w : World) : (callFunc 72 args).run Tryd.prog w = .ok (.enter 72 args) w := by kernel_rfl
theorem wayV_len (fs : List Fm) (v : List T3) (i j : Nat) : (wayV fs v i j).length = j - i := by simp [wayV]
theorem wayV_take {fs : List Fm} {v : List T3} {i j k : Nat} (h : k < j - i) : (wayV fs v i j).take (k + 1) = (wayV fs v i j).take k ++ [iterV fs (i + k) v] := by
  rw [List.take_succ_eq_append_getElem (by rw [wayV_len]; exact h)]
  simp [wayV]
/-- What the visitor holds after k of the valuations. -/
def stK (fs : List Fm) (v : List T3) (i j k : Nat) (st : Option (List T3)) : Option (List T3) := ((wayV fs v i j).take k).foldl stepS st
theorem stK_zero (fs : List Fm) (v : List T3) (i j : Nat) (st : Option (List T3)) : stK fs v i j 0 st = st := by simp [stK]
theorem stK_succ {fs : List Fm} {v : List T3} {i j k : Nat} (h : k < j - i) (st : Option (List T3)) : stK fs v i j (k + 1) st = stepS (stK fs v i j k st) (iterV fs (i + k) v) := by
  unfold stK
  rw [wayV_take h, List.foldl_append]
  rfl
theorem stK_all {fs : List Fm} {v : List T3} {i j : Nat} (st : Option (List T3)) : stK fs v i j (j - i) st = (wayV fs v i j).foldl stepS st := by
  unfold stK
  rw [List.take_of_length_le (by rw [wayV_len]; exact Nat.le_refl _)]
set_option maxHeartbeats 3200000 in
set_option maxRecDepth 100000 in
theorem stable1_call {n : Nat} {fs : List Fm} (S : Tr.Sys n fs) (w0 : World) (A : Option Addr) (c : Nat) (hC : Kd.C kF w0 A n fs) (hc : n ≤ c) (gs go : Nat) (pr : Nat → Prop) (st : Option (List T3)) (v : List T3) (w : World) (hv : v.length = n) (tv : totV v) (hI : StI n w0 gs go (.slice A n c) pr st w) :
    Calls Tryd.prog 72 #[.string (strV v), .pointer (some ⟨gs, 0, none⟩), .pointer (some ⟨go, 0, none⟩)] w
      (fun e w' => e = .returned (.bool false) ∧ StI n w0 gs go (.slice A n c) pr ((wayV fs v (repI fs v) (repJ fs v)).foldl stepS st) w' ∧ Keep pr w w') := by
  have hrep := rep_spec S hv tv
  have hj := rep_small S hv tv
  generalize repI fs v = i at *
  generalize repJ fs v = j at *
  obtain ⟨u0, hO⟩ := hI.own
  have HRV := Aside0.mk (fun (w1 : World) (h : Below w0.heap.size w0 w1) => revise_any S hv hrep hj w1 A c (Kd.C_below hC h) hc)
  have cs : w.cell? ⟨gs, 0, none⟩ = some (.slice A n c) := hO.bs.cell 0
  have HBE := Aside0.mk hO.bel
  have HGOW := Aside0.mk hO.bo.lt
  have HI := Aside0.mk hI
  have hne : ¬ gs = go := hO.ne
  have hit : ∀ k, (iterV fs k v).length = n := fun k => by rw [iterV_len (by rw [hv, S.len]), S.len]
  have HIT := Aside0.mk hit
  have hij := hrep.lt
  have n10 : n ≤ 10 := S.n10
  have NP := S.pos
  have HS := Aside0.mk (stK_all (fs := fs) (v := v) (i := i) (j := j) st)
  rw [← HS.out]
  clear hO hI hC hc hrep hv tv hit S
  go_enter Tryd.func72, Tryd.ntmps72
  go_wp2_with fail
  refine (HRV.out _ HBE.out).mono ?_
  rintro e w2 ⟨u, rfl, hR, hb2⟩
  have hml : ((wayA fs v j).map strV).length = j := by rw [List.length_map, wayA_len]
  obtain ⟨Au, cu, rfl, hlu, hCu⟩ := Kd.R_reads hR
  rw [hml] at hlu hCu ⊢
  obtain ⟨au, rfl, _⟩ := Kd.at_string hCu 0 (by omega) (by omega)
  have HCU := Aside0.mk hCu
  have HK2 := Aside0.mk (Keep.of_below (p := pr) hb2)
  have i0 : (0 : Int) ≤ (i : Int) := by omega
  have i1 : (i : Int) ≤ (j : Int) := by omega
  have i2 : (i : Int) ≤ (cu : Int) := by omega
  have j2 : (j : Int) ≤ (cu : Int) := by omega
  have hab0 : w.heap.size ≤ au.block := Kd.R_base hR au.block rfl
  have HI2 := Aside0.mk (HI.out.toJ hab0 hb2)
  have hab : au.block < w2.heap.size := by
    obtain ⟨_, e1, h1⟩ := Kd.at_string hCu 0 (by omega) (by omega)
    cases e1
    have := World.block_lt_of_cell? w2 _ h1
    rwa [show Int.toNat 0 = 0 from rfl, add_zero] at this
  have hag : w.heap.size ≤ au.block := Kd.R_base hR au.block rfl
  have HGO := Aside0.mk (show au.block ≠ go from fun e => by have := HGOW.out; omega)
  have HROW := Aside0.mk (show ∀ (W : World) (a : Nat), a < j → W.heap[au.block]? = w2.heap[au.block]? → W.cell? (au.add a) = some (.string (strV (iterV fs a v))) from fun W a ha hW => by
    obtain ⟨_, e1, h1⟩ := Kd.at_string hCu (a : Int) (by omega) (by omega)
    cases e1
    rw [Int.toNat_natCast] at h1
    have e2 : rdOf ByteArray.empty ((wayA fs v j).map strV) (a : Int) = strV (iterV fs a v) := by simp [rdOf, wayA, ha]
    rw [e2] at h1
    have hblk : (au.add a).block = au.block := by unfold Addr.add; split <;> rfl
    unfold World.cell? at h1 ⊢
    rw [hblk] at h1 ⊢
    rw [hW]
    exact h1)
  clear hR hCu hb2 hml
  go_upto_region 3 with fail
  generalize hm : j - i = m at *
  have HM := Aside0.mk hm
  have m0 : (0 : Int) ≤ (m : Int) := by omega
  have m1 : m ≤ 1024 := by omega
  clear hm
  go_wp2_with fail
  have HKB := Aside0.mk (Keep.refl pr w2)
  have qn : ∀ (w : World) (a : Option Addr) (n c : Nat), (binOp .eql 49 (.slice a n c) (.slice none 0 0)).run Tryd.prog w = .ok (.bool a.isNone) w := fun w a n c => by cases a <;> kernel_rfl
  have hcb := fun (w1 : World) (x : List T3) => print_bytes (P := Tryd.prog) 9 49 5 Tryd.underlying9 Tryd.underlying49 Tryd.underlying5 (strV x) w1
  have HSB := Aside0.mk (show StJ au.block n w0 gs go (.slice A n c) pr (stK fs v i j 0 st) w2 by rw [stK_zero]; exact HI2.out)
  go_loopg [22] (m + 1) (fun kq v22 wr => ∃ k : Nat, k ≤ m ∧ v22 = .int .i64 (k : Int) ∧ Aside0 (m - k < kq) ∧ Aside0 (StJ au.block n w0 gs go (.slice A n c) pr (stK fs v i j k st) wr) ∧ Aside0 (Keep pr w2 wr) ∧ Aside0 (wr.heap[au.block]? = w2.heap[au.block]?))
  case atStart => exact ⟨0, by omega, rfl, ⟨by omega⟩, HSB, HKB, ⟨rfl⟩⟩
  case round =>
    clear HSB HKB
    obtain ⟨k, hk, rfl, HQ, HST, HK, HAU⟩ := hrel
    have k0 : (0 : Int) ≤ (k : Int) := by omega
    by_cases hkm : k < m
    · have hkm' : (k : Int) < (m : Int) := by omega
      have hrow := HROW.out wr (i + k) (by have := HM.out; omega) HAU.out
      have hadd : au.add (i + k) = (au.add i).add k := by
        unfold Addr.add
        by_cases h1 : i = 0 <;> by_cases h2 : k = 0 <;> simp [h1, h2, Nat.add_assoc]
      rw [hadd] at hrow
      obtain ⟨x, hx⟩ : ∃ x, iterV fs (i + k) v = x := ⟨_, rfl⟩
      have hxl : x.length = n := by rw [← hx]; exact HIT.out _
      have HSU := Aside0.mk (show stK fs v i j (k + 1) st = stepS (stK fs v i j k st) x by rw [← hx]; exact stK_succ (by have := HM.out; omega) st)
      rw [hx] at hrow
      have HXL := Aside0.mk hxl
      clear hadd hx hxl
      generalize stK fs v i j k st = st1 at *
      generalize wr = WB at *
      cases st1 with
      | none =>
        have hO : Own2 w0 gs go 49 (.slice A n c) (.slice none 0 0) pr WB := HST.out
        have co : WB.cell? ⟨go, 0, none⟩ = some (.slice none 0 0) := hO.bo.cell 0
        have fo : WB.frozen? ⟨go, 0, none⟩ = false := hO.bo.frozen 0
        have hbw : Below WB.heap.size WB (Lib.bytesWorld WB 5 (strV x)) := bytes_below (Below.refl _ _) (Nat.le_refl _) _ _
        have HOW := Aside0.mk (hO.below hbw)
        have HO := Aside0.mk hO
        have cow : (Lib.bytesWorld WB 5 (strV x)).cell? ⟨go, 0, none⟩ = some (.slice none 0 0) := HOW.out.bo.cell 0
        have fow : (Lib.bytesWorld WB 5 (strV x)).frozen? ⟨go, 0, none⟩ = false := HOW.out.bo.frozen 0
        have hsz : (strV x).size = n := by rw [strV_size, HXL.out]
        have HBR := Aside0.mk (BRow.new WB x)
        have HBW := Aside0.mk hbw
        clear hO HST hbw
        go_upto_region 7 with fail
        have hpu := HOW.out.put (.slice (some ⟨WB.heap.size, 0, none⟩) n (grownCap WB n 0 5))
        have hgo : go < WB.heap.size := by have := HO.out.bo.lt; exact this
        have hbr := HBR.out
        rw [HXL.out] at hbr
        have hbr2 : BRow ((Lib.bytesWorld WB 5 (strV x)).setCell ⟨go, 0, none⟩ (.slice (some ⟨WB.heap.size, 0, none⟩) n (grownCap WB n 0 5))) WB.heap.size n x := hbr.keep (p := fun i => i ≠ go) ((Keep.refl _ _).set_ go 0 _ (fun _ hp => hp rfl)) (by omega)
        have hpr : ¬ pr WB.heap.size := fun hp => by have := (HO.out.prot _ hp).2.2.2; omega
        have hga : au.block ≠ WB.heap.size := by have := HK.out.size; omega
        have HO3 := Aside0.mk hpu.1
        have HB3 := Aside0.mk hbr2
        have HPG := Aside0.mk hpr
        have HGB := Aside0.mk (show w0.heap.size ≤ WB.heap.size from HO.out.bel.size)
        have HAG := Aside0.mk hga
        have HK3 := Aside0.mk ((Keep.of_below (p := pr) HBW.out).trans hpu.2)
        have HA3 := Aside0.mk (show ((Lib.bytesWorld WB 5 (strV x)).setCell ⟨go, 0, none⟩ (.slice (some ⟨WB.heap.size, 0, none⟩) n (grownCap WB n 0 5))).heap[au.block]? = w2.heap[au.block]? from by
          rw [Below.heap_setCell _ _ _ _ (fun e => HGO.out e), HBW.out.block _ (by have := HK.out.size; omega)]
          exact HAU.out)
        clear hpu hbr hbr2 hpr hga hgo cow fow co fo HOW HBR hsz
        generalize (Lib.bytesWorld WB 5 (strV x)).setCell ⟨go, 0, none⟩ (.slice (some ⟨WB.heap.size, 0, none⟩) n (grownCap WB n 0 5)) = W3 at *
        generalize hcap : grownCap WB n 0 5 = cap at *
        obtain ⟨gb, hgbe⟩ : ∃ gb, WB.heap.size = gb := ⟨_, rfl⟩
        rw [hgbe] at HO3 HB3 HPG HGB HAG
        have co : W3.cell? ⟨go, 0, none⟩ = some (.slice (some ⟨gb, 0, none⟩) n cap) := HO3.out.bo.cell 0
        clear hgbe hcap
        obtain ⟨ox, hox⟩ : ∃ ox, ox = x := ⟨_, rfl⟩
        rw [← hox] at HB3
        have HOL := Aside0.mk (show ox.length = n by rw [hox]; exact HXL.out)
        have HOX := Aside0.mk hox
        clear hox
        go_wp2_with fail
        go_loopw [32] (fun v32 wq => ∃ q : Nat, q ≤ n ∧ v32 = .int .i64 (q : Int) ∧ Aside0 (Own2 w0 gs go 49 (.slice A n c) (.slice (some ⟨gb, 0, none⟩) n cap) pr wq) ∧ Aside0 (BRow wq gb n (mixV ox x q)) ∧ Aside0 (Keep pr WB wq) ∧ Aside0 (wq.heap[au.block]? = w2.heap[au.block]?)) (fun v _ => n - (intOf v).toNat)
        case atStart => exact ⟨0, by omega, rfl, HO3, ⟨by rw [mixV_zero]; exact HB3.out⟩, HK3, HA3⟩
        case round =>
          clear HO3 HB3 HK3 HA3
          obtain ⟨q, hq, rfl, HO3, HB3, HK3, HA3⟩ := hrel
          have q0 : (0 : Int) ≤ (q : Int) := by omega
          have co3 : wr.cell? ⟨go, 0, none⟩ = some (.slice (some ⟨gb, 0, none⟩) n cap) := HO3.out.bo.cell 0
          by_cases hqn : q < n
          · have hqn' : (q : Int) < (n : Int) := by omega
            have hol : q < ox.length := by rw [HOL.out]; exact hqn
            have cb3 := HB3.out.cell q hqn
            rw [mixV_at hol] at cb3
            have fb3 := HB3.out.frozen q hqn
            have hsx : q < (strV x).size := by rw [strV_size, HXL.out]; exact hqn
            have hsx' : (q : Int) < (strV x).size := by omega
            have hix : (((strV x)[q]'hsx).toNat : Int) = b3 (getV x q) := by
              have := bt_strV x q (by rw [HXL.out]; exact hqn)
              rw [← this]; simp [bt, hsx]
            have hnb := b3_ne (getV ox q) (getV x q)
            have HMS := Aside0.mk (fun h => mixV_same (o := ox) (w := x) hol h)
            have HMT := Aside0.mk (mixV_set (o := ox) (w := x) hol)
            clear hol
            generalize getV ox q = a at *
            generalize getV x q = b at *
            generalize strV x = sx at *
            by_cases hab2 : a = b
            · rw [decide_eq_false (fun h => h hab2)] at hnb
              have HM2 := Aside0.mk (HMS.out hab2)
              clear hab2 HMS HMT
              go_wp2_with fail
              go_quiet (fail)
              go_wp2_with fail
              go_roundw
              case rel => exact ⟨q + 1, by omega, by go_num, ⟨HO3.out.below (pw_below_drewN (Below.refl _ _) _)⟩, ⟨by rw [HM2.out]; exact HB3.out.later (pw_below_drewN (Below.refl _ _) _)⟩, ⟨HK3.out.trans (Keep.of_below (pw_below_drewN (Below.refl _ _) _))⟩, HA3⟩
              case measure => simp [intOf]; omega
            · rw [decide_eq_true (show a ≠ b from hab2)] at hnb
              have hb3 : both3 a b = none := by unfold both3; rw [if_neg hab2]
              rw [hb3] at HMT
              clear hab2 HMS hb3
              have HB4 := Aside0.mk (HB3.out.set_ q hqn none)
              have HNB := Aside0.mk HB3.out.lt
              go_wp2_with fail
              go_quiet (fail)
              go_wp2_with fail
              go_roundw
              case rel =>
                have hOd := HO3.out.below (pw_below_drewN (Below.refl wr.heap.size wr) nq)
                have hgs : gb ≠ gs := HB3.out.ne_blk HO3.out.bs
                have hgo : gb ≠ go := HB3.out.ne_blk HO3.out.bo
                have hg := hOd.grown (gb_set (wr.drewN nq) ⟨gb, q, none⟩ (.int .u8 63)) (fun i hi => by
                  have : gb = i := by simpa using hi
                  subst this
                  exact ⟨hgs, hgo, HGB.out, HPG.out⟩)
                have hbd : BRow ((wr.drewN nq).setCell ⟨gb, q, none⟩ (.int .u8 (b3 none))) gb n ((mixV ox x q).set q none) := (HB3.out.later (pw_below_drewN (Below.refl _ _) nq)).set_ q hqn none
                rw [HMT.out] at hbd
                refine ⟨q + 1, by omega, by go_num, ⟨hg.1⟩, ⟨hbd⟩, ⟨(HK3.out.trans (Keep.of_below (pw_below_drewN (Below.refl _ _) nq))).trans hg.2⟩, ⟨?_⟩⟩
                rw [← HA3.out]
                exact Below.heap_setCell (wr.drewN nq) ⟨gb, q, none⟩ _ au.block (fun e => HAG.out e)
              case measure => simp [intOf]; omega
          · obtain rfl : n = q := by omega
            have hma : mixV ox x n = bothV ox x := mixV_all (by rw [HOL.out]; exact Nat.le_refl _)
            rw [hma] at HB3
            have HST2 := Aside0.mk (show StJ au.block n w0 gs go (.slice A n c) pr (some (bothV ox x)) wr from ⟨gb, cap, HO3.out, HB3.out, HPG.out, HGB.out, fun e => HAG.out e.symm⟩)
            clear hma hqn
            go_wp2_with fail
            go_roundg (gk - 1)
            case measure => have := HQ.out; omega
            case rel => exact ⟨k + 1, by omega, by go_num, ⟨by have := HQ.out; omega⟩, ⟨by rw [HSU.out]; first | exact HST2.out | (have h := HST2.out; rw [HOX.out] at h; exact h)⟩, ⟨HK.out.trans HK3.out⟩, HA3⟩
      | some o =>
        obtain ⟨gb, cap, hO, hBR, hpg, hgb, hag2⟩ := HST.out
        have HOX := Aside0.mk (show o = o ∨ True from .inl rfl)
        have HO3 := Aside0.mk hO
        have HB3 := Aside0.mk hBR
        have HOL := Aside0.mk hBR.len
        have HPG := Aside0.mk hpg
        have HGB := Aside0.mk hgb
        have HAG := Aside0.mk (show au.block ≠ gb from fun e => hag2 e.symm)
        have HK3 := Aside0.mk (Keep.refl pr WB)
        have HA3 := HAU
        have co : WB.cell? ⟨go, 0, none⟩ = some (.slice (some ⟨gb, 0, none⟩) n cap) := hO.bo.cell 0
        clear hO hBR hpg hgb hag2 HST
        go_wp2_with fail
        go_loopw [32] (fun v32 wq => ∃ q : Nat, q ≤ n ∧ v32 = .int .i64 (q : Int) ∧ Aside0 (Own2 w0 gs go 49 (.slice A n c) (.slice (some ⟨gb, 0, none⟩) n cap) pr wq) ∧ Aside0 (BRow wq gb n (mixV o x q)) ∧ Aside0 (Keep pr WB wq) ∧ Aside0 (wq.heap[au.block]? = w2.heap[au.block]?)) (fun v _ => n - (intOf v).toNat)
        case atStart => exact ⟨0, by omega, rfl, HO3, ⟨by rw [mixV_zero]; exact HB3.out⟩, HK3, HA3⟩
        case round =>
          clear HO3 HB3 HK3 HA3
          obtain ⟨q, hq, rfl, HO3, HB3, HK3, HA3⟩ := hrel
          have q0 : (0 : Int) ≤ (q : Int) := by omega
          have co3 : wr.cell? ⟨go, 0, none⟩ = some (.slice (some ⟨gb, 0, none⟩) n cap) := HO3.out.bo.cell 0
          by_cases hqn : q < n
          · have hqn' : (q : Int) < (n : Int) := by omega
            have hol : q < o.length := by rw [HOL.out]; exact hqn
            have cb3 := HB3.out.cell q hqn
            rw [mixV_at hol] at cb3
            have fb3 := HB3.out.frozen q hqn
            have hsx : q < (strV x).size := by rw [strV_size, HXL.out]; exact hqn
            have hsx' : (q : Int) < (strV x).size := by omega
            have hix : (((strV x)[q]'hsx).toNat : Int) = b3 (getV x q) := by
              have := bt_strV x q (by rw [HXL.out]; exact hqn)
              rw [← this]; simp [bt, hsx]
            have hnb := b3_ne (getV o q) (getV x q)
            have HMS := Aside0.mk (fun h => mixV_same (o := o) (w := x) hol h)
            have HMT := Aside0.mk (mixV_set (o := o) (w := x) hol)
            clear hol
            generalize getV o q = a at *
            generalize getV x q = b at *
            generalize strV x = sx at *
            by_cases hab2 : a = b
            · rw [decide_eq_false (fun h => h hab2)] at hnb
              have HM2 := Aside0.mk (HMS.out hab2)
              clear hab2 HMS HMT
              go_wp2_with fail
              go_quiet (fail)
              go_wp2_with fail
              go_roundw
              case rel => exact ⟨q + 1, by omega, by go_num, ⟨HO3.out.below (pw_below_drewN (Below.refl _ _) _)⟩, ⟨by rw [HM2.out]; exact HB3.out.later (pw_below_drewN (Below.refl _ _) _)⟩, ⟨HK3.out.trans (Keep.of_below (pw_below_drewN (Below.refl _ _) _))⟩, HA3⟩
              case measure => simp [intOf]; omega
            · rw [decide_eq_true (show a ≠ b from hab2)] at hnb
              have hb3 : both3 a b = none := by unfold both3; rw [if_neg hab2]
              rw [hb3] at HMT
              clear hab2 HMS hb3
              have HB4 := Aside0.mk (HB3.out.set_ q hqn none)
              have HNB := Aside0.mk HB3.out.lt
              go_wp2_with fail
              go_quiet (fail)
              go_wp2_with fail
              go_roundw
              case rel =>
                have hOd := HO3.out.below (pw_below_drewN (Below.refl wr.heap.size wr) nq)
                have hgs : gb ≠ gs := HB3.out.ne_blk HO3.out.bs
                have hgo : gb ≠ go := HB3.out.ne_blk HO3.out.bo
                have hg := hOd.grown (gb_set (wr.drewN nq) ⟨gb, q, none⟩ (.int .u8 63)) (fun i hi => by
                  have : gb = i := by simpa using hi
                  subst this
                  exact ⟨hgs, hgo, HGB.out, HPG.out⟩)
                have hbd : BRow ((wr.drewN nq).setCell ⟨gb, q, none⟩ (.int .u8 (b3 none))) gb n ((mixV o x q).set q none) := (HB3.out.later (pw_below_drewN (Below.refl _ _) nq)).set_ q hqn none
                rw [HMT.out] at hbd
                refine ⟨q + 1, by omega, by go_num, ⟨hg.1⟩, ⟨hbd⟩, ⟨(HK3.out.trans (Keep.of_below (pw_below_drewN (Below.refl _ _) nq))).trans hg.2⟩, ⟨?_⟩⟩
                rw [← HA3.out]
                exact Below.heap_setCell (wr.drewN nq) ⟨gb, q, none⟩ _ au.block (fun e => HAG.out e)
              case measure => simp [intOf]; omega
          · obtain rfl : n = q := by omega
            have hma : mixV o x n = bothV o x := mixV_all (by rw [HOL.out]; exact Nat.le_refl _)
            rw [hma] at HB3
            have HST2 := Aside0.mk (show StJ au.block n w0 gs go (.slice A n c) pr (some (bothV o x)) wr from ⟨gb, cap, HO3.out, HB3.out, HPG.out, HGB.out, fun e => HAG.out e.symm⟩)
            clear hma hqn
            go_wp2_with fail
            go_roundg (gk - 1)
            case measure => have := HQ.out; omega
            case rel => exact ⟨k + 1, by omega, by go_num, ⟨by have := HQ.out; omega⟩, ⟨by rw [HSU.out]; first | exact HST2.out | (have h := HST2.out; rw [HOX.out] at h; exact h)⟩, ⟨HK.out.trans HK3.out⟩, HA3⟩
    · obtain rfl : m = k := by omega
      go_wp2_with fail
      go_ret
      exact ⟨rfl, by rw [HM.out]; exact HST.out.out, HK2.out.trans HK.out⟩
theorem stable1_v {n : Nat} {fs : List Fm} (S : Tr.Sys n fs) (w0 : World) (A : Option Addr) (c : Nat) (hC : Kd.C kF w0 A n fs) (hc : n ≤ c) (gs go : Nat) :
    VisitV (StI n w0 gs go (.slice A n c)) (fun _ => True) 72 #[.pointer (some ⟨gs, 0, none⟩), .pointer (some ⟨go, 0, none⟩)] n base2 (visS fs) where
  enter := cf72
  fresh := fun pr st w h i hi => by obtain ⟨u, ho⟩ := h.own; exact (ho.prot i hi).2.2.2
  step := fun pr pr' st w w' h k hp => h.step k hp
  stay := fun _ _ _ _ => trivial
  calls := fun pr st v w hv hB _ hI => stable1_call S w0 A c hC hc gs go pr st v w hv (fun x hx => by
    have := hB x hx
    rcases x with _ | (_ | _)
    · exact absurd this (by decide)
    · simp
    · simp) hI
noncomputable def stableO (l : List (List UInt8)) : ByteArray × Int := if sysE l = 0 then (strV (stabV l.length (sysF l)), 0) else (str0, sysE l)
set_option maxHeartbeats 1600000 in
set_option maxRecDepth 100000 in
theorem stable_call (l : List (List UInt8)) (w : World) (A : Option Addr) (c : Nat) (hr : Kd.C Kd.string w A l.length (l.map strL)) :
    Calls Tryd.prog 35 #[.slice A l.length c] w (OutS (stableO l) w) := by
  by_cases h0 : sysE l = 0
  · have S := sys_ok h0
    have HO := Aside0.mk (of_good h0 w A c hr)
    have HR := Aside0.mk (show stableO l = (strV (stabV l.length (sysF l)), 0) by unfold stableO; rw [if_pos h0])
    obtain ⟨n, hn⟩ : ∃ n, l.length = n := ⟨_, rfl⟩
    rw [hn] at HO S HR ⊢
    generalize sysF l = fs at *
    have HE := Aside0.mk (fun (w1 : World) (A : Option Addr) (c : Nat) (hC : Kd.C kF w1 A n fs) (hc : n ≤ c) =>
      each_v (stable1_v S w1 A c hC hc w1.heap.size (w1.heap.size + 1)) S.n10 A c none ((w1.alloc (.cells #[.slice A n c] 54)).alloc (.cells #[.slice none 0 0] 49)) trivial (fun pr w' hb hp => Own2.start (own2_new w1 (.slice A n c) (.slice none 0 0) 49) hb hp))
    have e2 : strV base2 = ⟨#[48, 49]⟩ := rfl
    have e3 := run_stab_all S
    rw [e2, e3] at HE
    clear hr S h0 hn e2 e3
    generalize stabV n fs = o at *
    have hmf : ∀ (fn : Fn) (first cap : Array Value) (w : World), (Instr.makeFunc fn first cap).run Tryd.prog w = .ok (.func fn first cap) w := fun _ _ _ _ => rfl
    go_enter Tryd.func35, Tryd.ntmps35
    go_wp2_with (first | (go_at_call 40; refine HO.out.mono ?_; rintro e w1 ⟨A1, c1, hc1, rfl, hC, hb⟩; have HC := Aside0.mk hC; have HB := Aside0.mk hb; have HCC := Aside0.mk hc1; clear hC hb hc1))
    refine (HE.out w1 A1 c1 HC.out HCC.out).mono ?_
    rintro e w2 ⟨pr, rfl, hI, hk⟩
    obtain ⟨gb, cap, hO, hBR, _, _⟩ := hI
    have co : w2.cell? ⟨w1.heap.size + 1, 0, none⟩ = some (.slice (some ⟨gb, 0, none⟩) n cap) := hO.bo.cell 0
    have HB2 := Aside0.mk (below_then HB.out HB.out.size hO.bel)
    have hcv := hBR.conv cap
    clear hO hBR hk
    go_wp2_with fail
    go_ret2
    exact ⟨by rw [HR.out]; rfl, HB2.out⟩
  · have HR := Aside0.mk (show stableO l = (str0, sysE l) by unfold stableO; rw [if_neg h0])
    have HO := Aside0.mk (of_bad h0 w A c hr)
    have hne : (sysE l != 0) = true := bne_iff_ne.2 h0
    clear h0 hr
    generalize sysE l = x at *
    go_enter Tryd.func35, Tryd.ntmps35
    go_wp2_with (first | (go_at_call 40; refine HO.out.mono ?_; rintro e w1 ⟨rfl, hb⟩; have HB := Aside0.mk hb; clear hb))
    go_ret2
    exact ⟨by rw [HR.out]; rfl, below_alloc HB.out _⟩
end Go.Proofs.YtijaefmaceolbaaDoor.Im

namespace Go.Proofs.YtijaefmaceolbaaDoor.Im
open Go.RowKit Go.Proofs.YtijaefmaceolbaaDoorW.PrintWords Go.Proofs.YtijaefmaceolbaaDoorW.PrintLast Go.Proofs.YtijaefmaceolbaaDoorW.PrintMore Go.Proofs.YtijaefmaceolbaaDoor.Tr
set_option linter.unusedVariables false
set_option linter.unusedSimpArgs false
def tkX (v : List T3) (i : Nat) : List Int := (v.take i).map b3 ++ List.replicate (v.length - i) 0
theorem tkX_zero (v : List T3) : tkX v 0 = List.replicate v.length 0 := by simp [tkX]
theorem tkX_all (v : List T3) : tkX v v.length = v.map b3 := by simp [tkX]
theorem tkX_set {v : List T3} {i : Nat} (h : i < v.length) : (tkX v i).set i (b3 (getV v i)) = tkX v (i + 1) := by
  unfold tkX
  rw [List.set_append_right _ _ (by simp; omega), List.take_succ_eq_append_getElem h, List.map_append, List.append_assoc]
  congr 1
  have : i - ((v.take i).map b3).length = 0 := by simp; omega
  rw [this, show v.length - i = (v.length - (i + 1)) + 1 by omega, List.replicate_succ, List.set_cons_zero]
  simp [getV, h]
end Go.Proofs.YtijaefmaceolbaaDoor.Im

namespace Go.Proofs.YtijaefmaceolbaaDoor.Im
open Go.RowKit Go.Proofs.YtijaefmaceolbaaDoorW.PrintWords Go.Proofs.YtijaefmaceolbaaDoorW.PrintLast Go.Proofs.YtijaefmaceolbaaDoorW.PrintMore Go.Proofs.YtijaefmaceolbaaDoor.Tr
set_option linter.unusedVariables false
set_option linter.unusedSimpArgs false
section
variable {α : Type} {enc : α → Value} {h1 : ∀ x, (enc x).oneCell' = true} {e : Nat} {W : World} {base g n cap : Nat} {ok : Nat → Prop} {xs : List α}
/-- A row, pinned to its block. -/
theorem R_pin (h : (Kd.scalar enc h1).R e W base ok (.slice (some ⟨g, 0, none⟩) n cap) xs) : (Kd.scalar enc h1).R e W base (fun k => k = g) (.slice (some ⟨g, 0, none⟩) n cap) xs := by
  obtain ⟨rfl, _⟩ := Kd.R_reads' h
  exact Kd.R_of_own (Kd.own_of_R h) (fun k hk => by
    have : g = k := by simpa [Value.ownBlock] using hk
    exact this.symm)
end
abbrev RwI (W : World) (base g n cap : Nat) (xs : List Int) : Prop := Kd.R (Kd.int .i64) 3 W base (fun k => k = g) (.slice (some ⟨g, 0, none⟩) n cap) xs
abbrev RwB (W : World) (base g n cap : Nat) (xs : List Bool) : Prop := Kd.R Kd.bool 4 W base (fun k => k = g) (.slice (some ⟨g, 0, none⟩) n cap) xs
theorem RwI.set_ {W : World} {base g n cap : Nat} {xs : List Int} (h : RwI W base g n cap xs) (i : Nat) (x : Int) : RwI (W.setCell ⟨g, i, none⟩ (.int .i64 x)) base g n cap (xs.set i x) := by
  have := (Kd.R_putg h (i : Int) x).1
  rw [Int.toNat_natCast] at this
  exact this
theorem RwB.set_ {W : World} {base g n cap : Nat} {xs : List Bool} (h : RwB W base g n cap xs) (i : Nat) (x : Bool) : RwB (W.setCell ⟨g, i, none⟩ (.bool x)) base g n cap (xs.set i x) := by
  have := (Kd.R_putg h (i : Int) x).1
  rw [Int.toNat_natCast] at this
  exact this
theorem RwI.far {W : World} {base g n cap : Nat} {xs : List Int} (h : RwI W base g n cap xs) {p : Addr} (hp : g ≠ p.block) (u : Value) : RwI (W.setCell p u) base g n cap xs := Kd.R_far h (fun k hk => by rw [hk]; exact hp) u
theorem RwB.far {W : World} {base g n cap : Nat} {xs : List Bool} (h : RwB W base g n cap xs) {p : Addr} (hp : g ≠ p.block) (u : Value) : RwB (W.setCell p u) base g n cap xs := Kd.R_far h (fun k hk => by rw [hk]; exact hp) u
theorem RwI.cell {W : World} {base g n cap : Nat} {xs : List Int} (h : RwI W base g n cap xs) (i : Nat) (hi : i < n) : W.cell? ⟨g, i, none⟩ = some (.int .i64 (xs.getD i 0)) ∧ W.frozen? ⟨g, i, none⟩ = false := by
  have := Kd.R_celln 0 h (i : Int) (by omega) (by omega)
  rw [Int.toNat_natCast] at this
  have e : rdOf 0 xs (i : Int) = xs.getD i 0 := by simp [rdOf]
  rw [e] at this
  exact this
theorem RwB.cell {W : World} {base g n cap : Nat} {xs : List Bool} (h : RwB W base g n cap xs) (i : Nat) (hi : i < n) : W.cell? ⟨g, i, none⟩ = some (.bool (xs.getD i false)) ∧ W.frozen? ⟨g, i, none⟩ = false := by
  have := Kd.R_celln false h (i : Int) (by omega) (by omega)
  rw [Int.toNat_natCast] at this
  have e : rdOf false xs (i : Int) = xs.getD i false := by simp [rdOf]
  rw [e] at this
  exact this
/-- A row that is filled from the left. -/
def genX {α : Type} (f : Nat → α) (z : α) (N x : Nat) : List α := (List.range x).map f ++ List.replicate (N - x) z
theorem genX_zero {α : Type} (f : Nat → α) (z : α) (N : Nat) : genX f z N 0 = List.replicate N z := by simp [genX]
theorem genX_all {α : Type} (f : Nat → α) (z : α) (N : Nat) : genX f z N N = (List.range N).map f := by simp [genX]
theorem genX_set {α : Type} (f : Nat → α) (z : α) {N x : Nat} (h : x < N) : (genX f z N x).set x (f x) = genX f z N (x + 1) := by
  unfold genX
  rw [List.set_append_right _ _ (by simp), List.range_succ, List.map_append, List.append_assoc, show N - x = (N - (x + 1)) + 1 by omega, List.replicate_succ]
  simp
theorem getD_map {α : Type} (f : Nat → α) (z : α) {N x : Nat} (h : x < N) : ((List.range N).map f).getD x z = f x := by simp [h]
/-- What is led to from the first numbers. -/
def ledL (nx : Nat → Nat) (L : List Bool) (N : Nat) : Nat → List Bool
  | 0 => List.replicate N false
  | x + 1 => if L.getD x false then (ledL nx L N x).set (nx x) true else ledL nx L N x
theorem ledL_len (nx : Nat → Nat) (L : List Bool) (N : Nat) : ∀ x, (ledL nx L N x).length = N
  | 0 => by simp [ledL]
  | x + 1 => by
    rw [ledL]
    split
    · rw [List.length_set, ledL_len nx L N x]
    · exact ledL_len nx L N x
theorem ledL_iff {nx : Nat → Nat} {L : List Bool} {N : Nat} {y : Nat} (hy : y < N) : ∀ x, (ledL nx L N x).getD y false = true ↔ ∃ z, z < x ∧ L.getD z false = true ∧ nx z = y
  | 0 => by simp [ledL, hy]
  | x + 1 => by
    have ih := ledL_iff (nx := nx) (L := L) hy x
    rw [ledL]
    split
    · rename_i hL
      by_cases he : nx x = y
      · rw [List.getD_eq_getElem?_getD, List.getElem?_set, if_pos he, if_pos (by rw [ledL_len]; omega)]
        exact ⟨fun _ => ⟨x, by omega, hL, he⟩, fun _ => rfl⟩
      · rw [List.getD_eq_getElem?_getD, List.getElem?_set, if_neg he, ← List.getD_eq_getElem?_getD, ih]
        constructor
        · rintro ⟨z, h1, h2, h3⟩; exact ⟨z, by omega, h2, h3⟩
        · rintro ⟨z, h1, h2, h3⟩
          rcases Nat.lt_or_ge z x with h4 | h4
          · exact ⟨z, h4, h2, h3⟩
          · obtain rfl : z = x := by omega
            exact absurd h3 he
    · rename_i hL
      rw [ih]
      constructor
      · rintro ⟨z, h1, h2, h3⟩; exact ⟨z, by omega, h2, h3⟩
      · rintro ⟨z, h1, h2, h3⟩
        rcases Nat.lt_or_ge z x with h4 | h4
        · exact ⟨z, h4, h2, h3⟩
        · obtain rfl : z = x := by omega
          exact absurd h2 hL
/-- What is left, of the first numbers what is led to. -/
def lefL (L D : List Bool) (x : Nat) : List Bool := (List.range x).map (fun y => L.getD y false && D.getD y false) ++ L.drop x
theorem lefL_zero (L D : List Bool) : lefL L D 0 = L := by simp [lefL]
theorem lefL_all {L D : List Bool} : lefL L D L.length = (List.range L.length).map (fun y => L.getD y false && D.getD y false) := by simp [lefL]
theorem lefL_at {L D : List Bool} {x : Nat} (h : x < L.length) : (lefL L D x).getD x false = L.getD x false := by
  unfold lefL
  rw [List.getD_eq_getElem?_getD, List.getElem?_append_right (by simp)]
  simp
theorem lefL_set {L D : List Bool} {x : Nat} (h : x < L.length) : (lefL L D x).set x (L.getD x false && D.getD x false) = lefL L D (x + 1) := by
  unfold lefL
  rw [List.set_append_right _ _ (by simp), List.range_succ, List.map_append, List.append_assoc, List.drop_eq_getElem_cons h, List.length_map, List.length_range, Nat.sub_self, List.set_cons_zero]
  rfl
def agB (L D : List Bool) (x : Nat) : Bool := (List.range x).any fun y => L.getD y false && !D.getD y false
theorem agB_succ (L D : List Bool) (x : Nat) : agB L D (x + 1) = (agB L D x || (L.getD x false && !D.getD x false)) := by
  unfold agB
  rw [List.range_succ, List.any_append]
  simp
def cntB (N : Nat) (L : List Bool) : Nat := (List.range N).countP fun y => L.getD y false
theorem cntB_le (N : Nat) (L : List Bool) : cntB N L ≤ N := by
  have := List.countP_le_length (p := fun y => L.getD y false) (l := List.range N)
  rwa [List.length_range] at this
theorem countP_part (p q : Nat → Bool) : ∀ l : List Nat, l.countP p = l.countP (fun x => p x && q x) + l.countP (fun x => p x && !q x)
  | [] => rfl
  | a :: l => by
    rw [List.countP_cons, List.countP_cons, List.countP_cons, countP_part p q l]
    cases p a <;> cases q a <;> simp <;> omega
theorem cntB_less {L D : List Bool} {N : Nat} (hL : L.length = N) (h : agB L D N = true) : cntB N (lefL L D N) < cntB N L := by
  have e1 : cntB N (lefL L D N) = (List.range N).countP (fun y => L.getD y false && D.getD y false) := by
    unfold cntB
    apply List.countP_congr
    intro y hy
    have hy := List.mem_range.1 hy
    have : lefL L D N = (List.range N).map (fun y => L.getD y false && D.getD y false) := by rw [← hL]; exact lefL_all
    rw [this, getD_map _ _ hy]
  have e2 := countP_part (fun y => L.getD y false) (fun y => D.getD y false) (List.range N)
  have e3 : 0 < (List.range N).countP (fun y => L.getD y false && !D.getD y false) := by
    rw [List.countP_pos_iff]
    unfold agB at h
    rw [List.any_eq_true] at h
    exact h
  rw [e1]
  show _ < (List.range N).countP _
  omega
/-- What the specification keeps: what it holds is left, and more is to be left out at most while 'again'. -/
structure LefI (fs : List Fm) (n : Nat) (L : List Bool) (ag : Bool) : Prop where
  len : L.length = 2 ^ n
  left : Tr.Left fs n (fun x => L.getD x false)
  done : ag = false → ∀ y, L.getD y false = true → ledN fs n (fun x => L.getD x false) y
theorem lefI_start {n : Nat} {fs : List Fm} : LefI fs n ((List.range (2 ^ n)).map fun _ => true) true :=
  ⟨by simp, ⟨fun x hx => (by
    rcases Nat.lt_or_ge x (2 ^ n) with h | h
    · exact h
    · rw [List.getD_eq_getElem?_getD, List.getElem?_eq_none (by simp; exact h)] at hx; cases hx), fun x hx _ => getD_map _ _ hx⟩, fun h => (by cases h)⟩
theorem LefI.next {n : Nat} {fs : List Fm} (S : Tr.Sys n fs) {L : List Bool} {ag : Bool} (h : LefI fs n L ag) :
    LefI fs n (lefL L (ledL (nxN fs n) L (2 ^ n) (2 ^ n)) (2 ^ n)) (agB L (ledL (nxN fs n) L (2 ^ n) (2 ^ n)) (2 ^ n)) := by
  have hl := h.len
  generalize hD : ledL (nxN fs n) L (2 ^ n) (2 ^ n) = D at *
  have e : lefL L D (2 ^ n) = (List.range (2 ^ n)).map (fun y => L.getD y false && D.getD y false) := by rw [← hl]; exact lefL_all
  have hout : ∀ (M : List Bool), M.length = 2 ^ n → ∀ y, M.getD y false = true → y < 2 ^ n := fun M hM y hy => by
    rcases Nat.lt_or_ge y (2 ^ n) with h1 | h1
    · exact h1
    · rw [List.getD_eq_getElem?_getD, List.getElem?_eq_none (by omega)] at hy; cases hy
  have hDi : ∀ y, y < 2 ^ n → (D.getD y false = true ↔ ledN fs n (fun x => L.getD x false) y) := fun y hy => by
    rw [← hD, ledL_iff hy]
    constructor
    · rintro ⟨z, h1, h2, h3⟩; exact ⟨z, h2, h3⟩
    · rintro ⟨z, h2, h3⟩; exact ⟨z, hout L hl z h2, h2, h3⟩
  have hM : ∀ y, (lefL L D (2 ^ n)).getD y false = true ↔ L.getD y false = true ∧ ledN fs n (fun x => L.getD x false) y := fun y => by
    rcases Nat.lt_or_ge y (2 ^ n) with h1 | h1
    · rw [e, getD_map _ _ h1, Bool.and_eq_true, hDi y h1]
    · rw [e, List.getD_eq_getElem?_getD, List.getElem?_eq_none (by simp; exact h1)]
      constructor
      · intro h2; cases h2
      · rintro ⟨h2, _⟩; have := hout L hl y h2; omega
  refine ⟨by rw [e]; simp, h.left.step S hM, fun ha y hy => ?_⟩
  have hall : ∀ y, L.getD y false = true → (lefL L D (2 ^ n)).getD y false = true := fun y hy => by
    have h1 := hout L hl y hy
    rw [e, getD_map _ _ h1, hy, Bool.true_and]
    unfold agB at ha
    rw [List.any_eq_false] at ha
    have := ha y (List.mem_range.2 h1)
    rw [hy, Bool.true_and] at this
    simpa using this
  obtain ⟨z, h1, h2⟩ := ((hM y).1 hy).2
  exact ⟨z, hall z h1, h2⟩
theorem LefI.stab {n : Nat} {fs : List Fm} (S : Tr.Sys n fs) {L : List Bool} (h : LefI fs n L false) : stabV n fs = outN n (fun x => L.getD x false) :=
  stabV_spec (ref_stab S (h.left.done S (h.done rfl)))
end Go.Proofs.YtijaefmaceolbaaDoor.Im

namespace Go.Proofs.YtijaefmaceolbaaDoor.Im
open Go.RowKit Go.Proofs.YtijaefmaceolbaaDoorW.PrintWords Go.Proofs.YtijaefmaceolbaaDoorW.PrintLast Go.Proofs.YtijaefmaceolbaaDoorW.PrintMore Go.Proofs.YtijaefmaceolbaaDoor.Tr
attribute [local go_sem] max2_int min2_int max_two min_two max_three min_three max_four min_four
set_option linter.unusedVariables false
set_option linter.unusedSimpArgs false
theorem infoB' : (Tryd.prog.info? 4).map (fun i => (i.zero, i.size, i.bytes)) = some (some (.bool false), 1, 1) := by kernel_rfl
theorem wrB_any {n : Nat} (hn : n ≤ 10) (x : Nat) (hx : x < 2 ^ n) (w : World) : Calls Tryd.prog 73 #[.int .i64 (x : Nat), .int .i64 (n : Nat), .int .i64 2] w fun e w' => e = .returned (.string (strV (wrB base2 n x))) ∧ Below w.heap.size w w' := by
  have h10 : 2 ^ n ≤ 2 ^ 10 := Nat.pow_le_pow_right (by decide) hn
  obtain ⟨k, hk⟩ := written_g dig2 n x hn (by omega)
  exact pomaderef01_written.calls k x n 2 _ w (hk k (Nat.le_refl _))
/-- What the walk holds behind its first loop: the next numbers, and what is left. -/
structure StS (w1 W : World) (fs : List Fm) (n N gx gl cx cl : Nat) (L : List Bool) : Prop where
  bel : Below w1.heap.size w1 W
  nx : RwI W w1.heap.size gx N cx ((List.range N).map fun x => ((nxN fs n x : Nat) : Int))
  lf : RwB W w1.heap.size gl N cl L
  ne : gx ≠ gl
  lx : w1.heap.size ≤ gx
  ll : w1.heap.size ≤ gl
theorem StS.later {w1 W W' : World} {fs : List Fm} {n N gx gl cx cl : Nat} {L : List Bool} (h : StS w1 W fs n N gx gl cx cl L) (k : Below W.heap.size W W') : StS w1 W' fs n N gx gl cx cl L :=
  ⟨below_then h.bel h.bel.size k, Kd.R_below h.nx k, Kd.R_below h.lf k, h.ne, h.lx, h.ll⟩
def zerP (n : Nat) (L : List Bool) (i x : Nat) : Bool := (List.range x).any fun x => L.getD x false && getV (wrB base2 n x) i != some true
def oneP (n : Nat) (L : List Bool) (i x : Nat) : Bool := (List.range x).any fun x => L.getD x false && getV (wrB base2 n x) i == some true
theorem zerP_succ (n : Nat) (L : List Bool) (i x : Nat) : zerP n L i (x + 1) = (zerP n L i x || (L.getD x false && getV (wrB base2 n x) i != some true)) := by
  unfold zerP
  rw [List.range_succ, List.any_append]
  simp
theorem oneP_succ (n : Nat) (L : List Bool) (i x : Nat) : oneP n L i (x + 1) = (oneP n L i x || (L.getD x false && getV (wrB base2 n x) i == some true)) := by
  unfold oneP
  rw [List.range_succ, List.any_append]
  simp
theorem outN_at {n : Nat} {L : List Bool} {i : Nat} (h : i < n) : getV (outN n fun x => L.getD x false) i = if zerP n L i (2 ^ n) && oneP n L i (2 ^ n) then none else if zerP n L i (2 ^ n) then some false else some true := by
  unfold getV outN
  rw [List.getD_eq_getElem?_getD, List.getElem?_map, List.getElem?_range h]
  rfl
set_option maxHeartbeats 12800000 in
set_option maxRecDepth 100000 in
theorem rstable_good (l : List (List UInt8)) (h0 : sysE l = 0) (w : World) (A : Option Addr) (c : Nat) (hr : Kd.C Kd.string w A l.length (l.map strL)) :
    Calls Tryd.prog 36 #[.slice A l.length c] w (OutS (stableO l) w) := by
  have S := sys_ok h0
  have HO := Aside0.mk (rread_good h0 w A c hr)
  have HR := Aside0.mk (show stableO l = (strV (stabV l.length (sysF l)), 0) by unfold stableO; rw [if_pos h0])
  obtain ⟨n, hn⟩ : ∃ n, l.length = n := ⟨_, rfl⟩
  rw [hn] at HO S HR ⊢
  generalize sysF l = fs at *
  have n10 : n ≤ 10 := S.n10
  have n0 : (0 : Int) ≤ (n : Int) := by omega
  obtain ⟨N, hN⟩ : ∃ N, N = 2 ^ n := ⟨_, rfl⟩
  have hsh : wrap64 ((2 : Int) ^ min n 64) = (N : Int) := by rw [hN]; exact shl_n n (by omega)
  have hsh2 : wrap64 ((2 : Int) ^ n) = (N : Int) := by rw [hN]; exact wr_pow n (by omega)
  have hN12 : N ≤ 1024 := by rw [hN]; exact (Nat.pow_le_pow_right (by decide) n10 : 2 ^ n ≤ 2 ^ 10)
  have hN1 : 1 ≤ N := by rw [hN]; exact Nat.two_pow_pos n
  have NN0 : (0 : Int) ≤ (N : Int) := by omega
  have HN := Aside0.mk hN
  have HS := Aside0.mk S
  have HWR := Aside0.mk (fun (x : Nat) (hx : x < N) (w1 : World) => wrB_any n10 x (by rw [← hN]; exact hx) w1)
  have HVAL := Aside0.mk (fun (x : Nat) (w1 : World) (A1 : Option Addr) (c1 : Nat) (hC : Kd.C kNd w1 A1 n (fs.map ndF)) (hc : n ≤ c1) => values_any S (wrB_len base2 n x) w1 A1 c1 hC hc)
  have HNUM := Aside0.mk (fun (x : Nat) (w1 : World) => number_any (nextV fs (wrB base2 n x)) (nextV_tot S (wrB_len base2 n x) (wr_tot n x)) (by rw [nextV_len, S.len]; exact n10) w1)
  have HNX := Aside0.mk (fun (x : Nat) => (show nxN fs n x < N by rw [hN]; exact nxN_lt S x))
  have NP := S.pos
  clear hr h0 hn S hN
  go_enter Tryd.func36, Tryd.ntmps36
  go_wp2_with fail
  refine HO.out.mono ?_
  rintro e w1 ⟨A1, c1, hc1, rfl, hC, hb⟩
  have HB1 := Aside0.mk hb
  have HC := Aside0.mk hC
  have HCC := Aside0.mk hc1
  have HBR := Aside0.mk (Below.refl w1.heap.size w1)
  clear hC hb hc1
  go_upto_region 5 with fail
  rw [hsh2]
  clear hsh hsh2
  go_wp2_with (first
    | ((with_reducible refine gate_dst (N := 32) rfl ?_); refine Kd.R_make (Kd.int .i64) _ 3 rfl (N := 32) rfl 25 _ _ rfl (N : Int) rfl rfl Tryd.underlying25 (.int .i64 0) 8 info3 rfl (by decide) (by omega) 0 (ok := fun _ => True) (okp := fun _ => True) rfl (fun _ hk => hk) trivial NN0 (by omega) (Below.refl _ _) (Nat.le_refl _) ?_; intro v170 w5 ho6 hb hg_ hnew_; clear hg_ hnew_; rw [Int.toNat_natCast] at ho6; have HBX := Aside0.mk (below_step HBR.out hb); have HX := Aside0.mk (Kd.R_lower ho6 (Nat.le_refl _)); clear hb ho6)
    | ((with_reducible refine gate_dst (N := 34) rfl ?_); refine Kd.R_make Kd.bool _ 4 rfl (N := 34) rfl 41 _ _ rfl (N : Int) rfl rfl Tryd.underlying41 (.bool false) 1 infoB' rfl (by decide) (by omega) false (ok := fun _ => True) (okp := fun _ => True) rfl (fun _ hk => hk) trivial NN0 (by omega) (Below.refl _ _) (Nat.le_refl _) ?_; intro v171 w6 ho6 hb hg_ hnew_; clear hg_ hnew_; rw [Int.toNat_natCast] at ho6; have HBL := Aside0.mk hb; have HL := Aside0.mk ho6; clear hb ho6))
  have hpx : 0 < (List.replicate N (0 : Int)).length := by rw [List.length_replicate]; exact hN1
  have hpl : 0 < (List.replicate N false).length := by rw [List.length_replicate]; exact hN1
  obtain ⟨gx, cx, ex, hgx, hgx2, _⟩ := Kd.R_form HX.out hpx
  obtain ⟨gl, cl, el, hgl, _, _⟩ := Kd.R_form HL.out hpl
  rw [List.length_replicate] at ex el
  subst ex
  subst el
  have HGX := Aside0.mk hgx
  have HGL := Aside0.mk (show w1.heap.size ≤ gl by have := HBX.out.size; omega)
  have HNE := Aside0.mk (show gx ≠ gl by omega)
  have HX2 := Aside0.mk (show RwI w6 w1.heap.size gx N cx (genX (fun x => ((nxN fs n x : Nat) : Int)) 0 N 0) by rw [genX_zero]; exact R_pin (Kd.R_below HX.out HBL.out))
  have HL2 := Aside0.mk (show RwB w6 w1.heap.size gl N cl (genX (fun _ => true) false N 0) by rw [genX_zero]; exact R_pin (Kd.R_lower HL.out HBX.out.size))
  have HB2 := Aside0.mk (below_then HBX.out HBX.out.size HBL.out)
  clear hpx hpl hgx hgx2 hgl HX HL HBX HBL HBR
  go_loopw [9] (fun v wr => ∃ x : Nat, x ≤ N ∧ v = .int .i64 (x : Int) ∧ Aside0 (RwI wr w1.heap.size gx N cx (genX (fun x => ((nxN fs n x : Nat) : Int)) 0 N x)) ∧ Aside0 (RwB wr w1.heap.size gl N cl (genX (fun _ => true) false N x)) ∧ Aside0 (Below w1.heap.size w1 wr)) (fun v _ => N - (intOf v).toNat)
  case atStart => exact ⟨0, by omega, rfl, HX2, HL2, HB2⟩
  case round =>
    clear HX2 HL2 HB2
    obtain ⟨x, hx, rfl, HX, HL, HB⟩ := hrel
    have x0 : (0 : Int) ≤ (x : Int) := by omega
    by_cases hxn : x < N
    · have hxn' : (x : Int) < (N : Int) := by omega
      have HW1 := Aside0.mk (HWR.out x hxn wr)
      have HV1 := Aside0.mk (fun (w3 : World) (h : Below w1.heap.size w1 w3) => HVAL.out x w3 A1 c1 (Kd.C_below HC.out h) HCC.out)
      have HM1 := Aside0.mk (fun (w3 : World) => HNUM.out x w3)
      have hnx : numV (nextV fs (wrB base2 n x)) = nxN fs n x := rfl
      rw [hnx] at HM1
      have HXS := Aside0.mk (genX_set (fun x => ((nxN fs n x : Nat) : Int)) 0 hxn)
      have HLS := Aside0.mk (genX_set (fun _ => true) false hxn)
      clear hnx
      generalize strV (wrB base2 n x) = s1 at *
      generalize strV (nextV fs (wrB base2 n x)) = s2 at *
      go_wp2_with fail
      refine HW1.out.mono ?_
      rintro e w3 ⟨rfl, hb3⟩
      have HB3 := Aside0.mk (below_then HB.out HB.out.size hb3)
      have HX3 := Aside0.mk (Kd.R_below HX.out hb3)
      have HL3 := Aside0.mk (Kd.R_below HL.out hb3)
      clear hb3
      go_wp2_with fail
      refine (HV1.out _ HB3.out).mono ?_
      rintro e w4 ⟨rfl, hb4⟩
      have HB4 := Aside0.mk (below_then HB3.out HB3.out.size hb4)
      have HX4 := Aside0.mk (Kd.R_below HX3.out hb4)
      have HL4 := Aside0.mk (Kd.R_below HL3.out hb4)
      clear hb4
      go_wp2_with fail
      refine (HM1.out _).mono ?_
      rintro e w5 ⟨rfl, hb5⟩
      have HB5 := Aside0.mk (below_then HB4.out HB4.out.size hb5)
      have HX5 := Aside0.mk (Kd.R_below HX4.out hb5)
      have HL5 := Aside0.mk (Kd.R_below HL4.out hb5)
      clear hb5
      obtain ⟨cc1, ff1⟩ := RwI.cell HX5.out x hxn
      obtain ⟨cc2, ff2⟩ := RwB.cell HL5.out x hxn
      have HX6 := Aside0.mk (RwI.set_ HX5.out x ((nxN fs n x : Nat) : Int))
      have HL6 := Aside0.mk (RwB.far HL5.out (p := ⟨gx, x, none⟩) (fun e => HNE.out e.symm) (.int .i64 ((nxN fs n x : Nat) : Int)))
      have HX7 := Aside0.mk (RwI.far HX6.out (p := ⟨gl, x, none⟩) HNE.out (.bool true))
      have HL7 := Aside0.mk (RwB.set_ HL6.out x true)
      have HB7 := Aside0.mk (show Below w1.heap.size w1 ((w5.setCell ⟨gx, x, none⟩ (.int .i64 ((nxN fs n x : Nat) : Int))).setCell ⟨gl, x, none⟩ (.bool true)) from below_set (below_set HB5.out HGX.out) HGL.out)
      obtain ⟨cc3, ff3⟩ := RwB.cell HL6.out x hxn
      generalize (nxN fs n x : Nat) = y at *
      go_wp2_with fail
      go_roundw
      case rel => exact ⟨x + 1, by omega, by go_num, ⟨by rw [← HXS.out]; exact HX7.out⟩, ⟨by rw [← HLS.out]; exact HL7.out⟩, ⟨HB7.out⟩⟩
      case measure => simp [intOf]; omega
    · obtain rfl : N = x := by omega
      have HSS := Aside0.mk (show StS w1 wr fs n N gx gl cx cl ((List.range N).map fun _ => true) from ⟨HB.out, by have := HX.out; rwa [genX_all] at this, by have := HL.out; rwa [genX_all] at this, HNE.out, HGX.out, HGL.out⟩)
      have HLI := Aside0.mk (show LefI fs n ((List.range N).map fun _ => true) true from by rw [HN.out]; exact lefI_start)
      have HCN := Aside0.mk (show (if true = true then cntB N ((List.range N).map fun _ => true) + 1 else 0) < N + 3 from by rw [if_pos rfl]; have := cntB_le N ((List.range N).map fun _ => true); omega)
      clear HX HL HB hxn hx x0
      go_wp2_with fail
      go_loopg [10] (N + 3) (fun kq v10 wr => ∃ (ag : Bool) (L : List Bool), v10 = .bool ag ∧ Aside0 (LefI fs n L ag) ∧ Aside0 ((if ag = true then cntB N L + 1 else 0) < kq) ∧ Aside0 (StS w1 wr fs n N gx gl cx cl L))
      case atStart => exact ⟨true, _, rfl, HLI, HCN, HSS⟩
      case round =>
        clear HSS HLI HCN
        obtain ⟨ag, L, rfl, HLI, HCN, HSS⟩ := hrel
        cases ag
        · have hll : L.length = N := by rw [HN.out]; exact HLI.out.len
          have HLL := Aside0.mk hll
          have HST := Aside0.mk (HLI.out.stab HS.out)
          have HBW := Aside0.mk (Below.refl wr.heap.size wr)
          generalize wr = WB at *
          clear hll HLI HCN
          have hol : (outN n fun x => L.getD x false).length = n := by simp [outN]
          have HOL := Aside0.mk hol
          obtain ⟨O, hO⟩ : ∃ O, (outN n fun x => L.getD x false) = O := ⟨_, rfl⟩
          rw [hO] at HOL HST
          have HOO := Aside0.mk hO
          clear hol hO
          go_wp2_with (first | ((with_reducible refine gate_dst (N := 105) rfl ?_); refine Kd.R_make (Kd.int .u8) _ 5 rfl (N := 105) rfl 49 _ _ rfl (n : Int) rfl rfl Tryd.underlying49 (.int .u8 0) 1 info5 rfl (by decide) (by omega) 0 (ok := fun _ => True) (okp := fun _ => True) rfl (fun _ hk => hk) trivial n0 (by omega) (Below.refl _ _) (Nat.le_refl _) ?_; intro v170 w5 ho6 hb hg_ hnew_; clear hg_ hnew_; rw [Int.toNat_natCast] at ho6; have HB7 := Aside0.mk hb; have HV := Aside0.mk ho6; clear hb ho6))
          have hpos : 0 < (List.replicate n (0 : Int)).length := by rw [List.length_replicate]; exact NP
          obtain ⟨go, co, e170, hgo, _, _⟩ := Kd.R_form HV.out hpos
          rw [List.length_replicate] at e170
          subst e170
          have hX0 : tkX O 0 = List.replicate n 0 := by rw [tkX_zero, HOL.out]
          rw [← hX0] at HV
          have hlx := (show gx < WB.heap.size from by
            have := HSS.out.nx
            obtain ⟨g1, _, e1, _, h2, _⟩ := Kd.R_form this (by rw [List.length_map, List.length_range]; exact hN1)
            have e2 : gx = g1 := by have := congrArg Value.ownBlock e1; simpa [Value.ownBlock] using this
            rw [e2]; exact h2)
          have hll2 := (show gl < WB.heap.size from by
            have := HSS.out.lf
            obtain ⟨g1, _, e1, _, h2, _⟩ := Kd.R_form this (by rw [HLL.out]; exact hN1)
            have e2 : gl = g1 := by have := congrArg Value.ownBlock e1; simpa [Value.ownBlock] using this
            rw [e2]; exact h2)
          have HGO := Aside0.mk (show w1.heap.size ≤ go from by have := HSS.out.bel.size; omega)
          have HGN := Aside0.mk (show gx ≠ go ∧ gl ≠ go from ⟨by omega, by omega⟩)
          have HS7 := Aside0.mk (HSS.out.later HB7.out)
          clear hX0 hpos hlx hll2 hgo HBW HSS
          go_loopw [15] (fun v wr => ∃ i : Nat, i ≤ n ∧ v = .int .i64 (i : Int) ∧ Aside0 (Kd.R (Kd.int .u8) 5 wr WB.heap.size (fun _ => True) (.slice (some ⟨go, 0, none⟩) n co) (tkX O i)) ∧ Aside0 (StS w1 wr fs n N gx gl cx cl L)) (fun v _ => n - (intOf v).toNat)
          case atStart => exact ⟨0, by omega, rfl, HV, HS7⟩
          case round =>
            clear HV HS7
            obtain ⟨i, hi, rfl, HV, HS7⟩ := hrel
            have i0 : (0 : Int) ≤ (i : Int) := by omega
            by_cases hin : i < n
            · have hin' : (i : Int) < (n : Int) := by omega
              have HOI := Aside0.mk (show getV O i = if zerP n L i N && oneP n L i N then none else if zerP n L i N then some false else some true by rw [← HOO.out, HN.out]; exact outN_at hin)
              have HTS := Aside0.mk (tkX_set (v := O) (i := i) (by rw [HOL.out]; exact hin))
              have HVB := Aside0.mk HV.out
              generalize wr = WI at *
              have HBI := Aside0.mk (Below.refl WI.heap.size WI)
              clear HV
              go_wp2_with fail
              go_loopw [16, 17, 18] (fun v16 v17 v wr => ∃ x : Nat, x ≤ N ∧ v16 = .bool (zerP n L i x) ∧ v17 = .bool (oneP n L i x) ∧ v = .int .i64 (x : Int) ∧ Aside0 (Below WI.heap.size WI wr)) (fun _ _ v _ => N - (intOf v).toNat)
              case atStart => exact ⟨0, by omega, rfl, rfl, rfl, HBI⟩
              case round =>
                clear HBI
                obtain ⟨x, hx, rfl, rfl, rfl, HBI⟩ := hrel
                have x0 : (0 : Int) ≤ (x : Int) := by omega
                by_cases hxn : x < N
                · have hxn' : (x : Int) < (N : Int) := by omega
                  have HW1 := Aside0.mk (HWR.out x hxn wr)
                  have HZS := Aside0.mk (zerP_succ n L i x)
                  have HOS := Aside0.mk (oneP_succ n L i x)
                  have hwl := wrB_len base2 n x
                  have hsx : i < (strV (wrB base2 n x)).size := by rw [strV_size, hwl]; exact hin
                  have hsx' : (i : Int) < (strV (wrB base2 n x)).size := by omega
                  have hix : (((strV (wrB base2 n x))[i]'hsx).toNat : Int) = b3 (getV (wrB base2 n x) i) := by
                    have := bt_strV (wrB base2 n x) i (by rw [hwl]; exact hin)
                    rw [← this]; simp [bt, hsx]
                  have htv : getV (wrB base2 n x) i ≠ none := getV_tot (wr_tot n x) (by rw [hwl]; exact hin)
                  obtain ⟨ccl0, _⟩ := RwB.cell HS7.out.lf x hxn
                  have HCL := Aside0.mk (fun (w3 : World) (h : Below wr.heap.size wr w3) => pw_cell_below h (pw_cell_below HBI.out ccl0))
                  clear hwl ccl0
                  generalize strV (wrB base2 n x) = sx at *
                  generalize getV (wrB base2 n x) i = t at *
                  generalize L.getD x false = a at *
                  generalize zerP n L i x = z at *
                  generalize oneP n L i x = o at *
                  cases t with
                  | none => exact absurd rfl htv
                  | some b =>
                    clear htv
                    cases b <;> cases a <;> cases z <;> cases o
                    all_goals
                      simp only [b3_zero, b3_one] at hix
                      go_wp2_with fail
                      refine HW1.out.mono ?_
                      rintro e w3 ⟨rfl, hb3⟩
                      have ccl := HCL.out _ hb3
                      have HB3 := Aside0.mk (below_then HBI.out HBI.out.size hb3)
                      clear hb3
                      go_wp2_with fail
                      go_roundw
                      case rel => exact ⟨x + 1, by omega, by rw [HZS.out]; rfl, by rw [HOS.out]; rfl, by go_num, HB3⟩
                      case measure => simp [intOf]; omega
                · obtain rfl : N = x := by omega
                  have HVC := Aside0.mk (Kd.R_below HVB.out HBI.out)
                  have HS8 := Aside0.mk (HS7.out.later HBI.out)
                  obtain ⟨hx1, hf1⟩ := Kd.R_celln 0 HVC.out (i : Int) i0 hin'
                  rw [Int.toNat_natCast] at hx1 hf1
                  have HP := Aside0.mk (fun y : Int => (Kd.R_putg HVC.out (i : Int) y).1)
                  have HS9 := Aside0.mk (fun y : Int => (show StS w1 (wr.setCell ⟨go, i, none⟩ (.int .u8 y)) fs n N gx gl cx cl L from
                    ⟨below_set HS8.out.bel HGO.out, RwI.far HS8.out.nx (p := ⟨go, i, none⟩) HGN.out.1 _, RwB.far HS8.out.lf (p := ⟨go, i, none⟩) HGN.out.2 _, HS8.out.ne, HS8.out.lx, HS8.out.ll⟩))
                  generalize zerP n L i N = z at *
                  generalize oneP n L i N = o at *
                  clear hxn hx
                  cases z <;> cases o
                  all_goals
                    simp only [Bool.and_false, Bool.and_true, Bool.false_and, Bool.false_eq_true, if_false, if_true] at HOI
                    rw [HOI.out] at HTS
                    go_wp2_with fail
                    go_roundw
                    case rel =>
                      refine ⟨i + 1, by omega, by go_num, ⟨?_⟩, ⟨HS9.out _⟩⟩
                      rw [← HTS.out]
                      have := HP.out (b3 (getV O i))
                      rw [Int.toNat_natCast, HOI.out] at this
                      exact this
                    case measure => simp [intOf]; omega
            · obtain rfl : n = i := by omega
              have hXA : tkX O n = O.map b3 := by have := tkX_all O; rwa [HOL.out] at this
              have hcv := own_string (P := Tryd.prog) Tryd.underlying49 Tryd.underlying5 Tryd.underlying9 (Kd.own_of_R HV.out)
              rw [hXA, strOf_b3] at hcv
              clear hXA hin
              go_wp2_with fail
              go_ret2
              exact ⟨by rw [HR.out, HST.out]; rfl, below_then HB1.out HB1.out.size HS7.out.bel⟩
        · have hll : L.length = N := by rw [HN.out]; exact HLI.out.len
          have HLL := Aside0.mk hll
          have HBW := Aside0.mk (Below.refl wr.heap.size wr)
          generalize wr = WB at *
          clear hll
          go_wp2_with (first | ((with_reducible refine gate_dst (N := 55) rfl ?_); refine Kd.R_make Kd.bool _ 4 rfl (N := 55) rfl 41 _ _ rfl (N : Int) rfl rfl Tryd.underlying41 (.bool false) 1 infoB' rfl (by decide) (by omega) false (ok := fun _ => True) (okp := fun _ => True) rfl (fun _ hk => hk) trivial NN0 (by omega) (Below.refl _ _) (Nat.le_refl _) ?_; intro v172 w7 ho6 hb hg_ hnew_; clear hg_ hnew_; rw [Int.toNat_natCast] at ho6; have HB7 := Aside0.mk hb; have HD := Aside0.mk ho6; clear hb ho6))
          have hpl : 0 < (List.replicate N false).length := by rw [List.length_replicate]; exact hN1
          obtain ⟨gd, cd, ed, hgd, _, _⟩ := Kd.R_form HD.out hpl
          rw [List.length_replicate] at ed
          subst ed
          have hlx := (show gx < WB.heap.size from by
            have := HSS.out.nx
            obtain ⟨g1, _, e1, _, h2, _⟩ := Kd.R_form this (by rw [List.length_map, List.length_range]; exact hN1)
            have e2 : gx = g1 := by have := congrArg Value.ownBlock e1; simpa [Value.ownBlock] using this
            rw [e2]; exact h2)
          have hll2 := (show gl < WB.heap.size from by
            have := HSS.out.lf
            obtain ⟨g1, _, e1, _, h2, _⟩ := Kd.R_form this (by rw [HLL.out]; exact hN1)
            have e2 : gl = g1 := by have := congrArg Value.ownBlock e1; simpa [Value.ownBlock] using this
            rw [e2]; exact h2)
          have HGD := Aside0.mk (show w1.heap.size ≤ gd from by have := HSS.out.bel.size; omega)
          have HDX := Aside0.mk (show gx ≠ gd ∧ gl ≠ gd from ⟨by omega, by omega⟩)
          have HD2 := Aside0.mk (show RwB w7 WB.heap.size gd N cd (ledL (nxN fs n) L N 0) from R_pin HD.out)
          have HS7 := Aside0.mk (HSS.out.later HB7.out)
          clear hpl hgd hlx hll2 HD HBW
          go_loopw [12] (fun v wr => ∃ x : Nat, x ≤ N ∧ v = .int .i64 (x : Int) ∧ Aside0 (RwB wr WB.heap.size gd N cd (ledL (nxN fs n) L N x)) ∧ Aside0 (StS w1 wr fs n N gx gl cx cl L)) (fun v _ => N - (intOf v).toNat)
          case atStart => exact ⟨0, by omega, rfl, HD2, HS7⟩
          case round =>
            clear HD2 HS7
            obtain ⟨x, hx, rfl, HD, HS7⟩ := hrel
            have x0 : (0 : Int) ≤ (x : Int) := by omega
            by_cases hxn : x < N
            · have hxn' : (x : Int) < (N : Int) := by omega
              obtain ⟨ccl, _⟩ := RwB.cell HS7.out.lf x hxn
              obtain ⟨ccx, _⟩ := RwI.cell HS7.out.nx x hxn
              rw [getD_map _ _ hxn] at ccx
              have hy := HNX.out x
              have HLS := Aside0.mk (show ledL (nxN fs n) L N (x + 1) = if L.getD x false then (ledL (nxN fs n) L N x).set (nxN fs n x) true else ledL (nxN fs n) L N x from rfl)
              obtain ⟨ccd, ffd⟩ := RwB.cell HD.out (nxN fs n x) hy
              generalize nxN fs n x = y at *
              have y0 : (0 : Int) ≤ (y : Int) := by omega
              have y1 : (y : Int) < (N : Int) := by omega
              cases hb : L.getD x false
              · rw [hb] at ccl
                have HD3 := Aside0.mk (show ledL (nxN fs n) L N (x + 1) = ledL (nxN fs n) L N x by rw [HLS.out, hb]; rfl)
                clear HLS hb
                go_wp2_with fail
                go_roundw
                case rel => exact ⟨x + 1, by omega, by go_num, ⟨by rw [HD3.out]; exact HD.out⟩, HS7⟩
                case measure => simp [intOf]; omega
              · rw [hb] at ccl
                have HD3 := Aside0.mk (show ledL (nxN fs n) L N (x + 1) = (ledL (nxN fs n) L N x).set y true by rw [HLS.out, hb]; rfl)
                have HD4 := Aside0.mk (RwB.set_ HD.out y true)
                have HS8 := Aside0.mk (show StS w1 (wr.setCell ⟨gd, y, none⟩ (.bool true)) fs n N gx gl cx cl L from
                  ⟨below_set HS7.out.bel HGD.out, RwI.far HS7.out.nx (p := ⟨gd, y, none⟩) HDX.out.1 _, RwB.far HS7.out.lf (p := ⟨gd, y, none⟩) HDX.out.2 _, HS7.out.ne, HS7.out.lx, HS7.out.ll⟩)
                clear HLS hb
                go_wp2_with fail
                go_roundw
                case rel => exact ⟨x + 1, by omega, by go_num, ⟨by rw [HD3.out]; exact HD4.out⟩, HS8⟩
                case measure => simp [intOf]; omega
            · obtain rfl : N = x := by omega
              have HDD := HD
              clear hxn hx x0 HD
              generalize hDL : ledL (nxN fs n) L N N = D at *
              have HDL := Aside0.mk hDL
              have HA0 := Aside0.mk (show RwB wr w1.heap.size gl N cl (lefL L D 0) by rw [lefL_zero]; exact HS7.out.lf)
              have HX8 := Aside0.mk HS7.out.nx
              have HB8 := Aside0.mk HS7.out.bel
              clear hDL HS7
              go_wp2_with fail
              go_loopw [10, 13] (fun v10 v wr => ∃ x : Nat, x ≤ N ∧ v10 = .bool (agB L D x) ∧ v = .int .i64 (x : Int) ∧ Aside0 (RwB wr w1.heap.size gl N cl (lefL L D x)) ∧ Aside0 (RwB wr WB.heap.size gd N cd D) ∧ Aside0 (RwI wr w1.heap.size gx N cx ((List.range N).map fun x => ((nxN fs n x : Nat) : Int))) ∧ Aside0 (Below w1.heap.size w1 wr)) (fun _ v _ => N - (intOf v).toNat)
              case atStart => exact ⟨0, by omega, rfl, rfl, HA0, HDD, HX8, HB8⟩
              case round =>
                clear HA0 HDD HX8 HB8
                obtain ⟨x, hx, rfl, rfl, HA, HDD, HX8, HB8⟩ := hrel
                have x0 : (0 : Int) ≤ (x : Int) := by omega
                by_cases hxn : x < N
                · have hxn' : (x : Int) < (N : Int) := by omega
                  obtain ⟨ccl, ffl⟩ := RwB.cell HA.out x hxn
                  rw [lefL_at (by rw [HLL.out]; exact hxn)] at ccl
                  obtain ⟨ccd, _⟩ := RwB.cell HDD.out x hxn
                  have HAS := Aside0.mk (agB_succ L D x)
                  have HFS := Aside0.mk (lefL_set (L := L) (D := D) (x := x) (by rw [HLL.out]; exact hxn))
                  have HA4 := Aside0.mk (fun b : Bool => RwB.set_ HA.out x b)
                  have HD4 := Aside0.mk (fun b : Bool => RwB.far HDD.out (p := ⟨gl, x, none⟩) (fun e => HDX.out.2 e.symm) (.bool b))
                  have HX9 := Aside0.mk (fun b : Bool => RwI.far HX8.out (p := ⟨gl, x, none⟩) HNE.out (.bool b))
                  have HB9 := Aside0.mk (fun b : Bool => (show Below w1.heap.size w1 (wr.setCell ⟨gl, x, none⟩ (.bool b)) from below_set HB8.out HGL.out))
                  generalize hga : L.getD x false = a at *
                  generalize hgd2 : D.getD x false = d at *
                  generalize hgg : agB L D x = g at *
                  clear hga hgd2 hgg
                  cases a <;> cases d <;> cases g
                  all_goals
                    go_wp2_with fail
                    go_roundw
                    case rel => exact ⟨x + 1, by omega, by rw [HAS.out]; rfl, by go_num, ⟨by rw [← HFS.out]; exact HA4.out _⟩, ⟨HD4.out _⟩, ⟨HX9.out _⟩, ⟨HB9.out _⟩⟩
                    case measure => simp [intOf]; omega
                · obtain rfl : N = x := by omega
                  have hnx2 := HLI.out.next HS.out
                  rw [← HN.out, HDL.out] at hnx2
                  have HLI2 := Aside0.mk hnx2
                  have HLT := Aside0.mk (fun h => cntB_less (D := D) HLL.out h)
                  have hcn := HCN.out
                  simp only [if_true] at hcn
                  have HCN2 := Aside0.mk hcn
                  have HSS2 := Aside0.mk (show StS w1 wr fs n N gx gl cx cl (lefL L D N) from ⟨HB8.out, HX8.out, HA.out, HNE.out, HGX.out, HGL.out⟩)
                  generalize agB L D N = ag at *
                  clear hnx2 hcn hxn hx
                  go_wp2_with fail
                  go_roundg (gk - 1)
                  case measure => have := HCN2.out; omega
                  case rel =>
                    refine ⟨ag, lefL L D N, rfl, HLI2, ⟨?_⟩, HSS2⟩
                    have h1 := HCN2.out
                    cases ag
                    · rw [if_neg (by simp)]; omega
                    · rw [if_pos rfl]; have := HLT.out rfl; omega
set_option maxRecDepth 100000 in
theorem rstable_call (l : List (List UInt8)) (w : World) (A : Option Addr) (c : Nat) (hr : Kd.C Kd.string w A l.length (l.map strL)) :
    Calls Tryd.prog 36 #[.slice A l.length c] w (OutS (stableO l) w) := by
  by_cases h0 : sysE l = 0
  · exact rstable_good l h0 w A c hr
  · have HR := Aside0.mk (show stableO l = (str0, sysE l) by unfold stableO; rw [if_neg h0])
    have HO := Aside0.mk (rread_bad h0 w A c hr)
    have hne : (sysE l != 0) = true := bne_iff_ne.2 h0
    clear h0 hr
    generalize sysE l = x at *
    go_enter Tryd.func36, Tryd.ntmps36
    go_wp2_with fail
    refine HO.out.mono ?_
    rintro e w1 ⟨rfl, hb⟩
    have HB := Aside0.mk hb
    clear hb
    go_wp2_with fail
    go_ret2
    exact ⟨by rw [HR.out]; rfl, HB.out⟩
end Go.Proofs.YtijaefmaceolbaaDoor.Im

namespace Go.Proofs.YtijaefmaceolbaaDoor.Im
open Go.RowKit Go.Proofs.YtijaefmaceolbaaDoorW.PrintWords Go.Proofs.YtijaefmaceolbaaDoorW.PrintLast Go.Proofs.YtijaefmaceolbaaDoorW.PrintMore Go.Proofs.YtijaefmaceolbaaDoor.Tr
set_option linter.unusedVariables false
set_option linter.unusedSimpArgs false
set_option maxHeartbeats 6400000 in
set_option maxRecDepth 100000 in
theorem law_revises (L : List (List UInt8)) (s : ByteArray) (A : Option Addr) (c : Nat) (w : World) (hr : Kd.C Kd.string w A L.length (L.map strL)) (hc : L.length ≤ c) :
    Calls Tryd.prog 9 #[.slice A L.length c, .string s] w fun e w' => e = .returned (.bool true) ∧ Below w.heap.size w w' := by
  have hml : (L.map strL).length = L.length := List.length_map _
  have hfew := few_any (L.map strL) A c w (by rw [hml]; exact hr) (by rw [hml]; exact hc)
  rw [hml] at hfew
  have HF := Aside0.mk hfew
  have HR := Aside0.mk hr
  clear hfew
  cases hf : fewB (L.map strL)
  · rw [hf] at HF
    clear hf hr
    go_enter Tryd.func9, Tryd.ntmps9
    go_wp2_with fail
    refine HF.out.mono ?_
    rintro e w1 ⟨rfl, hb1⟩
    have HB1 := Aside0.mk hb1
    have HR1 := Aside0.mk (Kd.C_below HR.out hb1)
    clear hb1
    go_wp2_with fail
    refine (alive_any _).mono ?_
    rintro e w2 ⟨rfl, hb2⟩
    have HB2 := Aside0.mk (below_then HB1.out HB1.out.size hb2)
    have HR2 := Aside0.mk (Kd.C_below HR1.out hb2)
    clear hb2 HB1 HR1
    go_wp2_with fail
    go_ret
    exact ⟨rfl, HB2.out⟩
  · rw [hf] at HF
    clear hf hr
    by_cases hs : s.size ≤ 100
    · have t1 : decide (100 < (s.size : Int)) = false := decide_eq_false (by omega)
      have t2 : decide (100 < s.size) = false := decide_eq_false (by omega)
      have HV1 := Aside0.mk (fun (w1 : World) (hC : Kd.C Kd.string w1 A L.length (L.map strL)) => revise_call L s w1 A c hC (by omega))
      have HV2 := Aside0.mk (fun (w1 : World) (hC : Kd.C Kd.string w1 A L.length (L.map strL)) => rrevise_call L s w1 A c hC)
      have HV3 := Aside0.mk (fun (w1 : World) (hC : Kd.C Kd.string w1 A L.length (L.map strL)) => stable_call L w1 A c hC)
      have HV4 := Aside0.mk (fun (w1 : World) (hC : Kd.C Kd.string w1 A L.length (L.map strL)) => rstable_call L w1 A c hC)
      clear hs
      generalize reviseO L s = r at *
      generalize stableO L = q at *
      obtain ⟨r1, r2, r3⟩ := r
      obtain ⟨qs, qx⟩ := q
      have e1 : (r1 != r1) = false := by simp
      have e2 : (r2 != r2) = false := by simp
      have e3 : (r3 != r3) = false := by simp
      have e4 : (qx == qx) = true := by simp
      by_cases h8 : 8 < L.length
      · have t8 : decide (8 < (L.length : Int)) = true := decide_eq_true (by omega)
        by_cases h10 : L.length ≤ 10
        · have t10 : decide ((L.length : Int) ≤ 10) = true := decide_eq_true (by omega)
          go_enter Tryd.func9, Tryd.ntmps9
          go_wp2_with fail
          refine HF.out.mono ?_
          rintro e w1 ⟨rfl, hb1⟩
          have HB1 := Aside0.mk hb1
          have HR1 := Aside0.mk (Kd.C_below HR.out hb1)
          clear hb1
          go_wp2_with fail
          refine (HV1.out _ HR1.out).mono ?_
          rintro e w2 ⟨rfl, hb2⟩
          have HB2 := Aside0.mk (below_then HB1.out HB1.out.size hb2)
          have HR2 := Aside0.mk (Kd.C_below HR1.out hb2)
          clear hb2 HB1 HR1
          go_wp2_with fail
          refine (HV2.out _ HR2.out).mono ?_
          rintro e w3 ⟨rfl, hb3⟩
          have HB3 := Aside0.mk (below_then HB2.out HB2.out.size hb3)
          have HR3 := Aside0.mk (Kd.C_below HR2.out hb3)
          clear hb3 HB2 HR2
          go_wp2_with fail
          refine (alive_any _).mono ?_
          rintro e w4 ⟨rfl, hb4⟩
          have HB4 := Aside0.mk (below_then HB3.out HB3.out.size hb4)
          have HR4 := Aside0.mk (Kd.C_below HR3.out hb4)
          clear hb4 HB3 HR3
          go_wp2_with fail
          go_ret
          exact ⟨rfl, HB4.out⟩
        · have t10 : decide ((L.length : Int) ≤ 10) = false := decide_eq_false (by omega)
          go_enter Tryd.func9, Tryd.ntmps9
          go_wp2_with fail
          refine HF.out.mono ?_
          rintro e w1 ⟨rfl, hb1⟩
          have HB1 := Aside0.mk hb1
          have HR1 := Aside0.mk (Kd.C_below HR.out hb1)
          clear hb1
          go_wp2_with fail
          refine (HV1.out _ HR1.out).mono ?_
          rintro e w2 ⟨rfl, hb2⟩
          have HB2 := Aside0.mk (below_then HB1.out HB1.out.size hb2)
          have HR2 := Aside0.mk (Kd.C_below HR1.out hb2)
          clear hb2 HB1 HR1
          go_wp2_with fail
          refine (HV2.out _ HR2.out).mono ?_
          rintro e w3 ⟨rfl, hb3⟩
          have HB3 := Aside0.mk (below_then HB2.out HB2.out.size hb3)
          have HR3 := Aside0.mk (Kd.C_below HR2.out hb3)
          clear hb3 HB2 HR2
          go_wp2_with fail
          refine (HV3.out _ HR3.out).mono ?_
          rintro e w4 ⟨rfl, hb4⟩
          have HB4 := Aside0.mk (below_then HB3.out HB3.out.size hb4)
          have HR4 := Aside0.mk (Kd.C_below HR3.out hb4)
          clear hb4 HB3 HR3
          go_wp2_with fail
          refine (HV4.out _ HR4.out).mono ?_
          rintro e w5 ⟨rfl, hb5⟩
          have HB5 := Aside0.mk (below_then HB4.out HB4.out.size hb5)
          have HR5 := Aside0.mk (Kd.C_below HR4.out hb5)
          clear hb5 HB4 HR4
          go_wp2_with fail
          refine (alive_any _).mono ?_
          rintro e w6 ⟨rfl, hb6⟩
          have HB6 := Aside0.mk (below_then HB5.out HB5.out.size hb6)
          have HR6 := Aside0.mk (Kd.C_below HR5.out hb6)
          clear hb6 HB5 HR5
          go_wp2_with fail
          go_ret
          exact ⟨rfl, HB6.out⟩
      · have t8 : decide (8 < (L.length : Int)) = false := decide_eq_false (by omega)
        go_enter Tryd.func9, Tryd.ntmps9
        go_wp2_with fail
        refine HF.out.mono ?_
        rintro e w1 ⟨rfl, hb1⟩
        have HB1 := Aside0.mk hb1
        have HR1 := Aside0.mk (Kd.C_below HR.out hb1)
        clear hb1
        go_wp2_with fail
        refine (HV1.out _ HR1.out).mono ?_
        rintro e w2 ⟨rfl, hb2⟩
        have HB2 := Aside0.mk (below_then HB1.out HB1.out.size hb2)
        have HR2 := Aside0.mk (Kd.C_below HR1.out hb2)
        clear hb2 HB1 HR1
        go_wp2_with fail
        refine (HV2.out _ HR2.out).mono ?_
        rintro e w3 ⟨rfl, hb3⟩
        have HB3 := Aside0.mk (below_then HB2.out HB2.out.size hb3)
        have HR3 := Aside0.mk (Kd.C_below HR2.out hb3)
        clear hb3 HB2 HR2
        go_wp2_with fail
        refine (HV3.out _ HR3.out).mono ?_
        rintro e w4 ⟨rfl, hb4⟩
        have HB4 := Aside0.mk (below_then HB3.out HB3.out.size hb4)
        have HR4 := Aside0.mk (Kd.C_below HR3.out hb4)
        clear hb4 HB3 HR3
        go_wp2_with fail
        refine (HV4.out _ HR4.out).mono ?_
        rintro e w5 ⟨rfl, hb5⟩
        have HB5 := Aside0.mk (below_then HB4.out HB4.out.size hb5)
        have HR5 := Aside0.mk (Kd.C_below HR4.out hb5)
        clear hb5 HB4 HR4
        go_wp2_with fail
        refine (alive_any _).mono ?_
        rintro e w6 ⟨rfl, hb6⟩
        have HB6 := Aside0.mk (below_then HB5.out HB5.out.size hb6)
        have HR6 := Aside0.mk (Kd.C_below HR5.out hb6)
        clear hb6 HB5 HR5
        go_wp2_with fail
        go_ret
        exact ⟨rfl, HB6.out⟩
    · have t1 : decide (100 < (s.size : Int)) = true := decide_eq_true (by omega)
      have t2 : decide (100 < s.size) = true := decide_eq_true (by omega)
      go_enter Tryd.func9, Tryd.ntmps9
      go_wp2_with fail
      refine HF.out.mono ?_
      rintro e w1 ⟨rfl, hb1⟩
      have HB1 := Aside0.mk hb1
      have HR1 := Aside0.mk (Kd.C_below HR.out hb1)
      clear hb1
      go_wp2_with fail
      refine (alive_any _).mono ?_
      rintro e w2 ⟨rfl, hb2⟩
      have HB2 := Aside0.mk (below_then HB1.out HB1.out.size hb2)
      have HR2 := Aside0.mk (Kd.C_below HR1.out hb2)
      clear hb2 HB1 HR1
      go_wp2_with fail
      go_ret
      exact ⟨rfl, HB2.out⟩
end Go.Proofs.YtijaefmaceolbaaDoor.Im
namespace Go.Proofs.YtijaefmaceolbaaDoor.Im
open Go.RowKit Go.Proofs.YtijaefmaceolbaaDoorW.PrintWords Go.Proofs.YtijaefmaceolbaaDoorW.PrintLast Go.Proofs.YtijaefmaceolbaaDoorW.PrintMore Go.Proofs.YtijaefmaceolbaaDoor.Tr
theorem law11_any (A : Option Addr) (c : Nat) (l : List ByteArray) (s : ByteArray) (w : World) (hr : Kd.C Kd.string w A l.length l) (hc : l.length ≤ c) (_ : s.size ≤ maxLen) :
    Calls Tryd.prog 9 #[.slice A l.length c, .string s] w fun e w' => e = .returned (.bool true) ∧ Below w.heap.size w w' := by
  obtain ⟨L, rfl⟩ := strs_of l
  rw [List.length_map] at hr hc ⊢
  exact law_revises L s A c w hr hc
end Go.Proofs.YtijaefmaceolbaaDoor.Im

