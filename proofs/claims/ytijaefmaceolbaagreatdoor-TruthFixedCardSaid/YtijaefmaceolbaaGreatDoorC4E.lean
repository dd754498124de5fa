/- Further parts of the same walk: contracts of the functions that the law reaches, each under the conditions that it states. -/
import Derived.Test.YtijaefmaceolbaaGreatDoorC4D
import Derived.Maps.OwnSet
import Derived.Maps.Views
import Derived.StringKeys
namespace Go.Proofs.YtijaefmaceolbaaGreatDoor.Im
open Go.RowKit Go.Maps Go.Proofs.YtijaefmaceolbaaGreatDoorW.PrintWords Go.Proofs.YtijaefmaceolbaaGreatDoorW.PrintLast Go.Proofs.YtijaefmaceolbaaGreatDoorW.PrintMore Go.Proofs.YtijaefmaceolbaaGreatDoor.Tr
set_option linter.unusedVariables false
set_option linter.unusedSimpArgs false
def kyV (u : List T3) : Lit := .string (u.map byte3)
theorem kyV_lit {u : List T3} : WideAt.IsKeyLit (kyV u) := trivial
theorem kyV_inj {u v : List T3} (h : kyV u = kyV v) : u = v := by
  apply strV_inj
  unfold strV
  rw [Lit.string.inj h]
def revD (fs : List Fm) (v : List T3) : Nat → DataW Unit
  | 0 => .map []
  | k + 1 => (revD fs v k).put (kyV (iterV fs k v)) (.lit (.int .i64 (k : Nat)))
theorem revD_map (fs : List Fm) (v : List T3) : ∀ k, IsMap (revD fs v k)
  | 0 => isMap_empty
  | k + 1 => (revD_map fs v k).put _ _
theorem revD_no (fs : List Fm) (v x : List T3) : ∀ k, (∀ a, a < k → iterV fs a v ≠ x) → Maps.has (revD fs v k) (kyV x) = false
  | 0, _ => rfl
  | k + 1, h => by
    rw [revD, has_put_other (fun e => h k (by omega) (kyV_inj e).symm)]
    exact revD_no fs v x k fun a ha => h a (by omega)
theorem revD_yes (fs : List Fm) (v x : List T3) (i : Nat) : ∀ k, i < k → iterV fs i v = x → (∀ a b, a < b → b < k → iterV fs a v ≠ iterV fs b v) →
    Maps.has (revD fs v k) (kyV x) = true ∧ ∀ z, (revD fs v k).atKey (kyV x) z = .lit (.int .i64 (i : Nat))
  | 0, h, _, _ => absurd h (by omega)
  | k + 1, h, e, ap => by
    by_cases hk : i = k
    · subst hk
      rw [← e]
      exact ⟨by rw [revD, has_put_same (revD_map fs v i) kyV_lit], fun z => by rw [revD, atKey_put_same (revD_map fs v i) kyV_lit]⟩
    · have hne : kyV x ≠ kyV (iterV fs k v) := fun h' => ap i k (by omega) (by omega) (by rw [e]; exact kyV_inj h')
      obtain ⟨h1, h2⟩ := revD_yes fs v x i k (by omega) e (fun a b hab hb => ap a b hab (by omega))
      exact ⟨by rw [revD, has_put_other hne]; exact h1, fun z => by rw [revD, atKey_put_other hne]; exact h2 z⟩
def wayA (fs : List Fm) (v : List T3) (j : Nat) : List (List T3) := (List.range j).map fun a => iterV fs a v
theorem wayA_len (fs : List Fm) (v : List T3) (j : Nat) : (wayA fs v j).length = j := by simp [wayA]
theorem wayA_succ (fs : List Fm) (v : List T3) (j : Nat) : wayA fs v (j + 1) = wayA fs v j ++ [iterV fs j v] := by simp [wayA, List.range_succ]
def RevPost (fs : List Fm) (v : List T3) (i j : Nat) (w : World) (e : Ending) (w' : World) : Prop :=
  ∃ u, e = .returned (.tuple #[.int .i64 (i : Nat), .int .i64 (j : Nat), u]) ∧ Kd.R Kd.string 9 w' w.heap.size (fun _ => True) u ((wayA fs v j).map strV) ∧ Below w.heap.size w w'
theorem mapLaw : Keyed Tryz.prog 9 := string_keyed Tryz.underlying9
theorem mapZero (w : World) : (zeroValue 3).run Tryz.prog w = .ok (.int .i64 0) w := by kernel_rfl
theorem key_strV (u : List T3) (h : u.length ≤ 10) : keyOf Tryz.prog 9 (.string (strV u)) = some (kyV u) := by
  have := WideMaps.keyOf_string_mk (P := Tryz.prog) (s := strV u) Tryz.underlying9 (by rw [strV_size]; unfold maxLen; omega)
  rw [this]
  unfold kyV strV
  rfl
set_option maxHeartbeats 3200000 in
set_option maxRecDepth 100000 in
theorem revise_any {n : Nat} {fs : List Fm} (S : Tr.Sys n fs) {v : List T3} (hv : v.length = n) {i j : Nat} (hrep : IsRep fs v i j) (hj : j ≤ 1024) (w : World) (A : Option Addr) (c : Nat) (hC : Kd.C kF w A n fs) (hc : n ≤ c) :
    Calls Tryz.prog 52 #[.slice A n c, .string (strV v)] w (RevPost fs v i j w) := by
  have hmm := @run_makeMap Tryz.prog
  have hit : ∀ k, (iterV fs k v).length = n := fun k => by rw [iterV_len (by rw [hv, S.len]), S.len]
  have HN := Aside0.mk (fun (k : Nat) (w1 : World) (h : Below w.heap.size w w1) => next_any S (hit k) w1 A c (Kd.C_below hC h) hc)
  have HKEY := Aside0.mk (fun (k : Nat) => key_strV (iterV fs k v) (by rw [hit]; exact S.n10))
  have HREP := Aside0.mk hrep
  have H0 := Aside0.mk (show iterV fs 0 v = v from rfl)
  clear hC S hv hit hrep
  go_enter Tryz.func52, Tryz.ntmps52
  go_wp2_with fail
  go_loopg [1, 8] (j + 1) (fun kq v1 v8 wr => ∃ k : Nat, v1 = .string (strV (iterV fs k v)) ∧ Aside0 (k ≤ j) ∧ Aside0 (j - k < kq) ∧ Aside0 (Kd.R Kd.string 9 wr w.heap.size (fun q => q ≠ w.heap.size) v8 ((wayA fs v k).map strV)) ∧ Aside0 (wr.ownsMap Tryz.prog 9 (plainElem Tryz.prog 3) w.heap.size k (revD fs v k)) ∧ Aside0 (Below w.heap.size w wr))
  case atStart => exact ⟨0, rfl, ⟨Nat.zero_le _⟩, ⟨by omega⟩, ⟨Kd.R_nil _ _ _ _ _⟩, ⟨World.ownsMap_made _ _ _ _⟩, ⟨below_alloc (Below.refl _ _) _⟩⟩
  case round =>
    obtain ⟨k, rfl, HKJ, HQ, HO, HM, HB⟩ := hrel
    have HLEN := Aside0.mk (show ((wayA fs v k).map strV).length = k by rw [List.length_map, wayA_len])
    obtain ⟨A8, c8, e8⟩ := Kd.R_slice HO.out
    rw [HLEN.out] at e8
    subst e8
    have HKY := Aside0.mk (HKEY.out k)
    by_cases hk : k < j
    · have HH := Aside0.mk (revD_no fs v (iterV fs k v) k (fun a ha => HREP.out.apart a k ha hk))
      have HKK := Aside0.mk (show k + 1 ≤ j from hk)
      have HNX := Aside0.mk (HN.out k)
      have HWS := Aside0.mk (show ((wayA fs v k).map strV) ++ [strV (iterV fs k v)] = (wayA fs v (k + 1)).map strV by rw [wayA_succ, List.map_append]; rfl)
      have hit1 : nextV fs (iterV fs k v) = iterV fs (k + 1) v := rfl
      rw [hit1] at HNX
      have HD1 := Aside0.mk (show (revD fs v k).put (kyV (iterV fs k v)) (.lit (.int .i64 (k : Nat))) = revD fs v (k + 1) from rfl)
      have hk10 : k ≤ 1024 := by omega
      clear hit1 HN HKEY hk
      generalize iterV fs k v = x at *
      obtain ⟨y, hy⟩ : ∃ y, iterV fs (k + 1) v = y := ⟨_, rfl⟩
      rw [hy] at HNX
      have HYY := Aside0.mk hy
      clear hy
      go_wp2_with (first
        | (at_lookup; refine wpList_lookup_own_ok_int _ rfl _ _ 111 rfl 9 3 .i64 mapLaw Tryz.underlying111 Tryz.underlying3 (mapZero _) w.heap.size k _ rfl HM.out _ _ rfl HKY.out ?_; intro c hat hwc; rw [HH.out]; clear hat hwc)
        | (at_mapUpdate; refine wpList_mapUpdate_own _ rfl _ _ _ 111 rfl 9 3 mapLaw Tryz.underlying111 _ w.heap.size k _ rfl HM.out (by unfold maxLen; omega) _ _ _ rfl rfl HKY.out _ [] (plainElem_int Tryz.underlying3 (WalkArith.wf_i64 (by omega))) ?_; intro w1 hown1 hgrow1; have HM1 := Aside0.mk hown1; have HG1 := Aside0.mk hgrow1; have HO1 := Aside0.mk (Kd.R_grown HO.out hgrow1 (fun q hq => by simpa using hq)); have HB1 := Aside0.mk (HB.out.grown hgrow1 HB.out.size (fun q hq => by cases hq; exact Nat.le_refl _)); clear hown1 hgrow1)
        | ((with_reducible refine gate_builtin (b := .append) (xs := #[.tmp 27, .tmp 29]) rfl ?_); at_builtin; refine Kd.R_append Kd.string (w0 := w) w.heap.size rfl (.tmp 27) (.tmp 29) 22 9 (.string ⟨#[]⟩) 16 rfl Tryz.underlying22 infoS rfl (by decide) (by omega) _ ((wayA fs v k).map strV) (strV x) [.string (strV x)] (fun q => q ≠ w.heap.size) (fun _ => False) rfl rfl ?aP (fun _ hk => hk.elim) ?aF ?aO ?aB ?aS ?aL ?_; (case aP => exact rfl); (case aF => exact (fun q hq => by have := HM1.out.lt; omega)); (case aO => exact HO1.out); (case aB => exact HB1.out); (case aS => exact HB1.out.size); (case aL => have := HLEN.out; omega); intro v1 w3 ho hb hg hat; rw [HWS.out] at ho; have HO3 := Aside0.mk ho; have HB3 := Aside0.mk hb; have HM3 := Aside0.mk (HM1.out.kept hg (fun e => (HO1.out.1 _ e.symm) rfl)); clear ho hb hg hat)
        | (go_at_call 29; refine (HNX.out _ HB3.out).mono ?_; rintro e w4 ⟨rfl, hb4⟩; have HO4 := Aside0.mk (Kd.R_below HO3.out hb4); have HB4 := Aside0.mk (below_then HB3.out HB3.out.size hb4); have HM4 := Aside0.mk (HM3.out.kept (row := none) (gb_below hb4) (by simp)); clear hb4))
      go_roundg (gk - 1)
      case measure => have := HQ.out; omega
      case rel => exact ⟨k + 1, by rw [HYY.out], HKK, ⟨by have := HQ.out; have := HKK.out; omega⟩, HO4, ⟨by rw [← HD1.out]; exact HM4.out⟩, HB4⟩
    · obtain rfl : j = k := by have := HKJ.out; omega
      have hy := revD_yes fs v (iterV fs j v) i j HREP.out.lt HREP.out.eq.symm HREP.out.apart
      have HH := Aside0.mk hy.1
      have HA := Aside0.mk hy.2
      clear hy HN HKEY hk
      generalize iterV fs j v = x at *
      go_wp2_with (first
        | (at_lookup; refine wpList_lookup_own_ok_int _ rfl _ _ 111 rfl 9 3 .i64 mapLaw Tryz.underlying111 Tryz.underlying3 (mapZero _) w.heap.size j _ rfl HM.out _ _ rfl HKY.out ?_; intro c hat hwc; rw [HH.out]; obtain rfl : c = (i : Int) := (Lit.int.inj (DataW.lit.inj (hat.symm.trans (HA.out _)))).2; clear hat hwc))
      go_ret3
      exact ⟨.slice A8 j c8, rfl, Kd.R_mono HO.out (fun _ _ => trivial), HB.out⟩
end Go.Proofs.YtijaefmaceolbaaGreatDoor.Im

namespace Go.Proofs.YtijaefmaceolbaaGreatDoor.Im
open Go.RowKit Go.Proofs.YtijaefmaceolbaaGreatDoorW.PrintWords Go.Proofs.YtijaefmaceolbaaGreatDoorW.PrintLast Go.Proofs.YtijaefmaceolbaaGreatDoorW.PrintMore Go.Proofs.YtijaefmaceolbaaGreatDoor.Tr
set_option linter.unusedVariables false
set_option linter.unusedSimpArgs false
theorem rep_small {n : Nat} {fs : List Fm} (S : Tr.Sys n fs) {v : List T3} (hl : v.length = n) (h : totV v) : repJ fs v ≤ 1024 := by
  obtain ⟨i, j, hr, hj⟩ := rep_exists S hl h
  rw [((rep_spec S hl h).unique hr).2]
  exact Nat.le_trans hj (Nat.pow_le_pow_right (by decide) S.n10 : 2 ^ n ≤ 2 ^ 10)
def OutR (r : Int × Int × Int) (w : World) (e : Ending) (w' : World) : Prop := e = .returned (.tuple #[.int .i64 r.1, .int .i64 r.2.1, .int .i64 r.2.2]) ∧ Below w.heap.size w w'
noncomputable def reviseO (l : List (List UInt8)) (s : ByteArray) : Int × Int × Int :=
  if sysE l = 0 then (if valB [48, 49] l.length s then ((repI (sysF l) (vsOf s) : Nat), (repJ (sysF l) (vsOf s) : Nat), 0) else (0, 0, 2)) else (0, 0, sysE l)
set_option maxHeartbeats 800000 in
set_option maxRecDepth 100000 in
theorem revise_call (l : List (List UInt8)) (s : ByteArray) (w : World) (A : Option Addr) (c : Nat) (hr : Kd.C Kd.string w A l.length (l.map strL)) (hs : s.size ≤ 9223372036854775807) :
    Calls Tryz.prog 24 #[.slice A l.length c, .string s] w (OutR (reviseO l s) w) := by
  by_cases h0 : sysE l = 0
  · have S := sys_ok h0
    have HO := Aside0.mk (of_good h0 w A c hr)
    have HV := Aside0.mk (fun (A : Option Addr) (c : Nat) (w1 : World) => valued_any ⟨#[48, 49]⟩ s l.length c A w1 hs (by decide) (by decide) S.n10)
    obtain ⟨n, hn⟩ : ∃ n, l.length = n := ⟨_, rfl⟩
    rw [hn] at HO HV S ⊢
    by_cases hv : valB [48, 49] n s = true
    · have HR := Aside0.mk (show reviseO l s = (((repI (sysF l) (vsOf s) : Nat) : Int), ((repJ (sysF l) (vsOf s) : Nat) : Int), (0 : Int)) by unfold reviseO; rw [if_pos h0, hn, if_pos hv])
      obtain ⟨v, hvl, hvt, rfl⟩ := valB2 hv
      rw [vsOf_strV] at HR
      have HN := Aside0.mk (fun (w1 : World) (A : Option Addr) (c : Nat) => revise_any S hvl (rep_spec S hvl hvt) (rep_small S hvl hvt) w1 A c)
      have HV2 := Aside0.mk (fun (A : Option Addr) (c : Nat) (w1 : World) => (show Calls Tryz.prog _ _ w1 (ValuedPost true w1) from hv ▸ HV.out A c w1))
      clear HV hv hr hs S h0 hvl hvt hn
      generalize repI (sysF l) v = i at *
      generalize repJ (sysF l) v = j at *
      generalize strV v = s at *
      go_enter Tryz.func24, Tryz.ntmps24
      go_wp2_with (first | (go_at_call 27; refine HO.out.mono ?_; rintro e w1 ⟨A1, c1, hc1, rfl, hC, hb⟩; have HC := Aside0.mk hC; have HB := Aside0.mk hb; have HCC := Aside0.mk hc1; clear hC hb hc1) | (go_at_call 31; refine (HV2.out _ _ _).mono ?_; rintro e w2 ⟨rfl, hb2⟩; have HC2 := Aside0.mk (Kd.C_below HC.out hb2); have HB2 := Aside0.mk (below_then HB.out HB.out.size hb2); clear hb2) | (go_at_call 52; refine (HN.out _ _ _ HC2.out HCC.out).mono ?_; rintro e w3 ⟨u, rfl, hR, hb3⟩; have HB3 := Aside0.mk (below_then HB2.out HB2.out.size hb3); clear hR hb3))
      go_ret3
      exact ⟨by rw [HR.out]; rfl, HB3.out⟩
    · have hv' : valB [48, 49] n s = false := by simpa using hv
      have HR := Aside0.mk (show reviseO l s = (0, 0, 2) by unfold reviseO; rw [if_pos h0, hn, if_neg hv])
      have HV2 := Aside0.mk (fun (A : Option Addr) (c : Nat) (w1 : World) => (show Calls Tryz.prog _ _ w1 (ValuedPost false w1) from hv' ▸ HV.out A c w1))
      clear HV hv hv' hr hs S h0 hn
      go_enter Tryz.func24, Tryz.ntmps24
      go_wp2_with (first | (go_at_call 27; refine HO.out.mono ?_; rintro e w1 ⟨A1, c1, hc1, rfl, hC, hb⟩; have HB := Aside0.mk hb; clear hC hb hc1) | (go_at_call 31; refine (HV2.out _ _ _).mono ?_; rintro e w2 ⟨rfl, hb2⟩; have HB2 := Aside0.mk (below_then HB.out HB.out.size hb2); clear hb2))
      go_ret3
      exact ⟨by rw [HR.out]; rfl, HB2.out⟩
  · have HR := Aside0.mk (show reviseO l s = (0, 0, sysE l) by unfold reviseO; rw [if_neg h0])
    have HO := Aside0.mk (of_bad h0 w A c hr)
    have hne : (sysE l != 0) = true := bne_iff_ne.2 h0
    clear h0 hr hs
    generalize sysE l = x at *
    go_enter Tryz.func24, Tryz.ntmps24
    go_wp2_with (first | (go_at_call 27; refine HO.out.mono ?_; rintro e w1 ⟨rfl, hb⟩; have HB := Aside0.mk hb; clear hb))
    go_ret3
    exact ⟨by rw [HR.out]; rfl, HB.out⟩
end Go.Proofs.YtijaefmaceolbaaGreatDoor.Im

namespace Go.Proofs.YtijaefmaceolbaaGreatDoor.Im
open Go.RowKit Go.Proofs.YtijaefmaceolbaaGreatDoorW.PrintWords Go.Proofs.YtijaefmaceolbaaGreatDoorW.PrintLast Go.Proofs.YtijaefmaceolbaaGreatDoorW.PrintMore Go.Proofs.YtijaefmaceolbaaGreatDoor.Tr
set_option linter.unusedVariables false
set_option linter.unusedSimpArgs false
abbrev Sg := Nat → Bool × Bool
def addS (S : Sg) (j : Nat) (odd tw : Bool) : Sg := fun x => if x = j then ((S x).1 || (!odd || tw), (S x).2 || (odd || tw)) else S x
def letS (f : Fm) (odd tw : Bool) (S : Sg) : Sg := fun j => ((S j).1 || evn j f odd tw, (S j).2 || odn j f odd tw)
theorem letS_con (b odd tw : Bool) (S : Sg) : letS (.con b) odd tw S = S := by
  funext j
  show ((S j).1 || false, (S j).2 || false) = S j
  rw [Bool.or_false, Bool.or_false]
theorem letS_lt (i : Nat) (odd tw : Bool) (S : Sg) : letS (.lt i) odd tw S = addS S i odd tw := by
  funext j
  show ((S j).1 || (i == j && (!odd || tw)), (S j).2 || (i == j && (odd || tw))) = if j = i then _ else _
  by_cases h : j = i
  · subst h; rw [if_pos rfl]; simp
  · rw [if_neg h]
    have : (i == j) = false := beq_eq_false_iff_ne.2 (fun e => h e.symm)
    rw [this]; simp
theorem letS_bin (k : Tr.Op) (l r : Fm) (odd tw : Bool) (S : Sg) : letS (.bin k l r) odd tw S = letS r odd (tw || k == .eq) (letS l odd (tw || k == .eq) S) := by
  funext j
  show ((S j).1 || (_ || _), (S j).2 || (_ || _)) = (((S j).1 || _) || _, ((S j).2 || _) || _)
  rw [Bool.or_assoc, Bool.or_assoc]
structure LetV (I : (Nat → Prop) → Sg → World → Prop) (φ : FuncId) (cap : Array Value) (n : Nat) : Prop where
  enter : ∀ (args : Array Value) (w : World), (callFunc φ args).run Tryz.prog w = .ok (.enter φ args) w
  fresh : ∀ pr S w, I pr S w → ∀ i, pr i → i < w.heap.size
  step : ∀ pr pr' S w w', I pr S w → Keep (fun i => ¬ pr i) w w' → (∀ i, pr' i → pr i ∨ (w.heap.size ≤ i ∧ i < w'.heap.size)) → I pr' S w'
  calls : ∀ pr S (j : Nat) odd tw w, j < n → I pr S w → Calls Tryz.prog φ (#[.int .i64 (j : Nat), .bool odd, .bool tw] ++ cap) w (fun e w' => e = .returned (.tuple #[]) ∧ I pr (addS S j odd tw) w' ∧ Keep pr w w')
def letF : Fm → Nat
  | .con _ => 129
  | .lt _ => 131
  | .neg _ => 133
  | .bin _ _ _ => 136
theorem let_open (f : Fm) : ∃ (t : TypeId) (v : Value), encF f = .iface t v ∧ (∀ w, (method 270 t v "pomade/truth.letters").run Tryz.prog w = .ok (letF f, payF f) w) ∧
    ∀ (args : Array Value) (w : World), (callFunc (letF f) args).run Tryz.prog w = .ok (.enter (letF f) args) w := by
  cases f with
  | con b => exact ⟨_, _, rfl, fun w => by kernel_rfl, fun args w => by kernel_rfl⟩
  | lt i => exact ⟨_, _, rfl, fun w => by kernel_rfl, fun args w => by kernel_rfl⟩
  | neg f => exact ⟨_, _, rfl, fun w => by kernel_rfl, fun args w => by kernel_rfl⟩
  | bin k l r => exact ⟨_, _, rfl, fun w => by kernel_rfl, fun args w => by kernel_rfl⟩
def LetPost (I : (Nat → Prop) → Sg → World → Prop) (pr : Nat → Prop) (S : Sg) (w : World) (e : Ending) (w' : World) : Prop := e = .returned (.tuple #[]) ∧ I pr S w' ∧ Keep pr w w'
section
variable {I : (Nat → Prop) → Sg → World → Prop} {φ : FuncId} {cap : Array Value} {n : Nat}
theorem let_con (b odd tw : Bool) (pr : Nat → Prop) (S : Sg) (w : World) (hI : I pr S w) : Calls Tryz.prog 129 #[payF (.con b), .bool odd, .bool tw, .func (.func φ) #[] cap] w (LetPost I pr S w) := by
  have HI := Aside0.mk hI
  clear hI
  generalize payF (.con b) = x
  go_enter Tryz.func129, Tryz.ntmps129
  go_wp2_with fail
  go_end0
  exact ⟨rfl, HI.out, Keep.refl _ _⟩
theorem let_lt (V : LetV I φ cap n) (i : Nat) (hi : i < n) (odd tw : Bool) (pr : Nat → Prop) (S : Sg) (w : World) (hI : I pr S w) : Calls Tryz.prog 131 #[.int .i64 (i : Nat), .bool odd, .bool tw, .func (.func φ) #[] cap] w (LetPost I pr (addS S i odd tw) w) := by
  have HC := Aside0.mk (V.calls pr S i odd tw w hi hI)
  have E := V.enter
  clear V hI
  go_enter Tryz.func131, Tryz.ntmps131
  go_wp2_with fail
  refine HC.out.mono ?_
  rintro e w2 ⟨rfl, hI2, hk2⟩
  have HI2 := Aside0.mk hI2
  have HK2 := Aside0.mk hk2
  clear hI2 hk2
  go_wp2_with fail
  go_end0
  exact ⟨rfl, HI2.out, HK2.out⟩
set_option maxRecDepth 100000 in
theorem let_neg (V : LetV I φ cap n) (f : Fm) (odd tw : Bool) (pr : Nat → Prop) (S S2 : Sg) (w : World) (hI : I pr S w)
    (h : ∀ w1, I pr S w1 → Calls Tryz.prog (letF f) #[payF f, .bool (!odd), .bool tw, .func (.func φ) #[] cap] w1 (LetPost I pr S2 w1)) :
    Calls Tryz.prog 133 #[.agg #[encF f], .bool odd, .bool tw, .func (.func φ) #[] cap] w (LetPost I pr S2 w) := by
  obtain ⟨t, v, he, hm, hc⟩ := let_open f
  rw [he]
  have hbel : Below w.heap.size w (w.alloc (.cells #[.iface t v] 139)) := below_alloc (Below.refl _ _) _
  have HH := Aside0.mk (h _ (V.step pr pr S w _ hI (Keep.of_below hbel) (fun i hi => .inl hi)))
  have HK := Aside0.mk (Keep.of_below (p := pr) hbel)
  generalize letF f = ψ at *
  generalize payF f = π at *
  clear h he hI V hbel
  go_enter Tryz.func133, Tryz.ntmps133
  go_wp2_with fail
  refine HH.out.mono ?_
  rintro e w2 ⟨rfl, hI2, hk2⟩
  have HI2 := Aside0.mk hI2
  have HK2 := Aside0.mk (HK.out.trans hk2)
  clear hI2 hk2
  go_wp2_with fail
  go_end0
  exact ⟨rfl, HI2.out, HK2.out⟩
set_option maxHeartbeats 800000 in
set_option maxRecDepth 100000 in
theorem let_bin (V : LetV I φ cap n) (k : Tr.Op) (l r : Fm) (odd tw : Bool) (pr : Nat → Prop) (S S2 S3 : Sg) (w : World) (hI : I pr S w)
    (h : ∀ pr w1, I pr S w1 → Calls Tryz.prog (letF l) #[payF l, .bool odd, .bool (tw || k == .eq), .func (.func φ) #[] cap] w1 (LetPost I pr S2 w1))
    (h' : ∀ pr w1, I pr S2 w1 → Calls Tryz.prog (letF r) #[payF r, .bool odd, .bool (tw || k == .eq), .func (.func φ) #[] cap] w1 (LetPost I pr S3 w1)) :
    Calls Tryz.prog 136 #[.agg #[encF l, encF r, .int .u8 ((opByte k).toNat : Nat)], .bool odd, .bool tw, .func (.func φ) #[] cap] w (LetPost I pr S3 w) := by
  obtain ⟨t, v, he, hm, hc⟩ := let_open l
  obtain ⟨t', v', he', hm', hc'⟩ := let_open r
  rw [he, he']
  obtain ⟨o, ho⟩ : ∃ o : Int, (((opByte k).toNat : Nat) : Int) = o := ⟨_, rfl⟩
  rw [ho]
  have hop : (o == 61) = (k == .eq) := by subst ho; cases k <;> rfl
  obtain ⟨pr2, hpr2⟩ : ∃ pr2 : Nat → Prop, pr2 = fun i => pr i ∨ i = w.heap.size := ⟨_, rfl⟩
  have hbel : Below w.heap.size w (w.alloc (.cells #[.iface t v, .iface t' v', .int .u8 o] 141)) := below_alloc (Below.refl _ _) _
  have hlt : w.heap.size < (w.alloc (.cells #[.iface t v, .iface t' v', .int .u8 o] 141)).heap.size := by simp
  have HL := Aside0.mk (h pr2 _ (V.step pr pr2 S w _ hI (Keep.of_below hbel) (fun i hi => by rw [hpr2] at hi; exact hi.imp id (fun hi => ⟨by omega, by omega⟩))))
  have HK := Aside0.mk (Keep.of_below (p := pr) hbel)
  have HN := Aside0.mk (Blk.new w 141 #[.iface t v, .iface t' v', .int .u8 o])
  have HP := Aside0.mk hpr2
  have HR := Aside0.mk (h' pr2)
  have ST := Aside0.mk V.step
  generalize letF l = ψ at *
  generalize payF l = π at *
  generalize letF r = ψ' at *
  generalize payF r = π' at *
  generalize (k == .eq) = q at *
  clear h h' he he' hI V hbel ho hpr2 hlt
  have hpi : ∀ w2, Keep pr2 (w.alloc (.cells #[.iface t v, .iface t' v', .int .u8 o] 141)) w2 → Keep pr w w2 := fun w2 h => HK.out.trans (h.mono (fun i _ hi => by rw [HP.out]; exact .inl hi))
  have HPI := Aside0.mk hpi
  clear hpi
  cases tw
  · cases q
    all_goals
      rw [show (false || _) = _ from Bool.false_or _] at HL HR
      go_enter Tryz.func136, Tryz.ntmps136
      go_wp2_with fail
      refine HL.out.mono ?_
      rintro e w2 ⟨rfl, hI2, hk2⟩
      have HN2 := Aside0.mk (hk2.blk HN.out (by rw [HP.out]; exact .inr rfl))
      have c1 : w2.cell? ⟨w.heap.size, 1, none⟩ = some (.iface t' v') := HN2.out.cell 1
      have HR2 := Aside0.mk (HR.out w2 hI2)
      have HK2 := Aside0.mk hk2
      clear hI2 hk2
      go_wp2_with fail
      refine HR2.out.mono ?_
      rintro e w3 ⟨rfl, hI3, hk3⟩
      have HI3 := Aside0.mk (ST.out pr2 pr S3 w3 w3 hI3 (Keep.refl _ _) (fun i hi => .inl (by rw [HP.out]; exact .inl hi)))
      have HK3 := Aside0.mk (HPI.out _ (HK2.out.trans hk3))
      clear hI3 hk3
      go_wp2_with fail
      go_end0
      exact ⟨rfl, HI3.out, HK3.out⟩
  · rw [show (true || q) = true from rfl] at HL HR
    go_enter Tryz.func136, Tryz.ntmps136
    go_wp2_with fail
    refine HL.out.mono ?_
    rintro e w2 ⟨rfl, hI2, hk2⟩
    have HN2 := Aside0.mk (hk2.blk HN.out (by rw [HP.out]; exact .inr rfl))
    have c1 : w2.cell? ⟨w.heap.size, 1, none⟩ = some (.iface t' v') := HN2.out.cell 1
    have HR2 := Aside0.mk (HR.out w2 hI2)
    have HK2 := Aside0.mk hk2
    clear hI2 hk2
    go_wp2_with fail
    refine HR2.out.mono ?_
    rintro e w3 ⟨rfl, hI3, hk3⟩
    have HI3 := Aside0.mk (ST.out pr2 pr S3 w3 w3 hI3 (Keep.refl _ _) (fun i hi => .inl (by rw [HP.out]; exact .inl hi)))
    have HK3 := Aside0.mk (HPI.out _ (HK2.out.trans hk3))
    clear hI3 hk3
    go_wp2_with fail
    go_end0
    exact ⟨rfl, HI3.out, HK3.out⟩
theorem letters_any (V : LetV I φ cap n) : ∀ (f : Fm) (odd tw : Bool) (pr : Nat → Prop) (S : Sg) (w : World), f.low n → I pr S w →
    Calls Tryz.prog (letF f) #[payF f, .bool odd, .bool tw, .func (.func φ) #[] cap] w (LetPost I pr (letS f odd tw S) w)
  | .con b, odd, tw, pr, S, w, _, hI => by rw [letS_con]; exact let_con b odd tw pr S w hI
  | .lt i, odd, tw, pr, S, w, h, hI => by rw [letS_lt]; exact let_lt V i h odd tw pr S w hI
  | .neg f, odd, tw, pr, S, w, h, hI => let_neg V f odd tw pr S _ w hI fun w1 h1 => letters_any V f (!odd) tw pr S w1 h h1
  | .bin k l r, odd, tw, pr, S, w, h, hI => by
    rw [letS_bin]
    exact let_bin V k l r odd tw pr S _ _ w hI (fun pr w1 h1 => letters_any V l odd _ pr S w1 h.1 h1) (fun pr w1 h1 => letters_any V r odd _ pr _ w1 h.2 h1)
end
end Go.Proofs.YtijaefmaceolbaaGreatDoor.Im

namespace Go.Proofs.YtijaefmaceolbaaGreatDoor.Im
open Go.RowKit Go.Proofs.YtijaefmaceolbaaGreatDoorW.PrintWords Go.Proofs.YtijaefmaceolbaaGreatDoorW.PrintLast Go.Proofs.YtijaefmaceolbaaGreatDoorW.PrintMore Go.Proofs.YtijaefmaceolbaaGreatDoor.Tr
set_option linter.unusedVariables false
set_option linter.unusedSimpArgs false
def rowC (n : Nat) (S : Sg) : Array Value := (Array.range (n * 2)).map fun i => .bool (if i % 2 = 0 then (S (i / 2)).1 else (S (i / 2)).2)
theorem rowC_even (n : Nat) (S : Sg) (j : Nat) (h : j < n) : (rowC n S)[j * 2]? = some (.bool (S j).1) := by
  have : j * 2 < n * 2 := by omega
  simp [rowC, this]
theorem rowC_odd (n : Nat) (S : Sg) (j : Nat) (h : j < n) : (rowC n S)[j * 2 + 1]? = some (.bool (S j).2) := by
  have h1 : j * 2 + 1 < n * 2 := by omega
  have h2 : (j * 2 + 1) % 2 = 1 := by omega
  have h3 : (j * 2 + 1) / 2 = j := by omega
  simp [rowC, h1, h2, h3]
theorem rowC_set (n : Nat) (S : Sg) (j : Nat) (odd tw : Bool) (h : j < n) :
    ((rowC n S).setIfInBounds (j * 2 + 1) (.bool ((S j).2 || (odd || tw)))).setIfInBounds (j * 2) (.bool ((S j).1 || (!odd || tw))) = rowC n (addS S j odd tw) := by
  apply Array.ext
  · simp [rowC]
  · intro i h1 h2
    have hi : i < n * 2 := by simpa [rowC] using h2
    rw [Array.getElem_setIfInBounds (by simpa [rowC] using hi), Array.getElem_setIfInBounds (by simpa [rowC] using hi)]
    simp only [rowC, Array.getElem_map, Array.getElem_range, addS]
    by_cases e1 : j * 2 = i
    · have : i % 2 = 0 := by omega
      have h3 : i / 2 = j := by omega
      rw [if_pos e1, if_pos this, h3, if_pos rfl]
    · rw [if_neg e1]
      by_cases e2 : j * 2 + 1 = i
      · have : ¬ i % 2 = 0 := by omega
        have h3 : i / 2 = j := by omega
        rw [if_pos e2, if_neg this, h3, if_pos rfl]
      · rw [if_neg e2]
        have h3 : ¬ i / 2 = j := by omega
        rw [if_neg h3]
def zeroS : Sg := fun _ => (false, false)
theorem madeRow (n : Nat) : madeCells #[.bool false, .bool false] (n * 2) = rowC n zeroS := by
  apply Array.ext
  · simp [rowC, madeCells]
  · intro i h1 h2
    have hm : i % 2 < 2 := Nat.mod_lt _ (by decide)
    rcases Nat.mod_two_eq_zero_or_one i with h | h <;> simp [madeCells, rowC, zeroS, h]
def mtxC (n k : Nat) (R : Nat → Nat) : Array Value := (Array.range n).map fun i => if i < k then .slice (some ⟨R i, 0, none⟩) n n else .slice none 0 0
theorem mtxC_get (n k : Nat) (R : Nat → Nat) (i : Nat) (h : i < n) (hk : i < k) : (mtxC n k R)[i]? = some (.slice (some ⟨R i, 0, none⟩) n n) := by simp [mtxC, h, hk]
theorem mtxC_set (n k : Nat) (R : Nat → Nat) (g : Nat) : (mtxC n k R).setIfInBounds k (.slice (some ⟨g, 0, none⟩) n n) = mtxC n (k + 1) (fun i => if i = k then g else R i) := by
  apply Array.ext
  · simp [mtxC]
  · intro i h1 h2
    have hi : i < n := by simpa [mtxC] using h2
    rw [Array.getElem_setIfInBounds (by simpa [mtxC] using hi)]
    simp only [mtxC, Array.getElem_map, Array.getElem_range]
    by_cases e : k = i
    · subst e; rw [if_pos rfl, if_pos (by omega), if_pos rfl]
    · rw [if_neg e]
      by_cases hk : i < k
      · rw [if_pos hk, if_pos (by omega), if_neg (fun h => e h.symm)]
      · rw [if_neg hk, if_neg (by omega)]
theorem madeMtx (n : Nat) (R : Nat → Nat) : madeCells #[.slice none 0 0] n = mtxC n 0 R := by
  apply Array.ext
  · simp [mtxC, madeCells]
  · intro i h1 h2
    simp [madeCells, mtxC, Nat.mod_one]
def ArcI (ws : World) (gr n : Nat) (pr : Nat → Prop) (S : Sg) (w : World) : Prop :=
  Keep (fun i => i ≠ gr) ws w ∧ Blk w gr 77 (rowC n S) ∧ ∀ i, pr i → ws.heap.size ≤ i ∧ i < w.heap.size
theorem cf78 (args : Array Value) (w : World) : (callFunc 70 args).run Tryz.prog w = .ok (.enter 70 args) w := by kernel_rfl
set_option maxHeartbeats 800000 in
set_option maxRecDepth 100000 in
theorem arcs1_call (w : World) (gout gi gm gr n k j : Nat) (odd tw x1 x2 : Bool) (hn : n ≤ 10) (hk : k < n) (hj : j < n)
    (co : w.cell? ⟨gout, 0, none⟩ = some (.slice (some ⟨gm, 0, none⟩) n n)) (ci : w.cell? ⟨gi, 0, none⟩ = some (.int .i64 (k : Nat)))
    (cm : w.cell? ⟨gm, k, none⟩ = some (.slice (some ⟨gr, 0, none⟩) n n)) (c1 : w.cell? ⟨gr, j * 2 + 1, none⟩ = some (.bool x2)) (c0 : w.cell? ⟨gr, j * 2, none⟩ = some (.bool x1)) (f1 : ∀ i, w.frozen? ⟨gr, i, none⟩ = false) :
    Calls Tryz.prog 70 #[.int .i64 (j : Nat), .bool odd, .bool tw, .pointer (some ⟨gout, 0, none⟩), .pointer (some ⟨gi, 0, none⟩)] w fun e w' => e = .returned (.tuple #[]) ∧ w' = (w.setCell ⟨gr, j * 2 + 1, none⟩ (.bool (x2 || (odd || tw)))).setCell ⟨gr, j * 2, none⟩ (.bool (x1 || (!odd || tw))) := by
  have k0 : (0 : Int) ≤ (k : Int) := by omega
  have k1 : (k : Int) < (n : Int) := by omega
  have j0 : (0 : Int) ≤ (j : Int) := by omega
  have j1 : (j : Int) < (n : Int) := by omega
  have f2 := f1 (j * 2 + 1)
  have f3 := f1 (j * 2)
  clear f1
  go_enter Tryz.func70, Tryz.ntmps70
  go_wp2_with fail
  all_goals
    go_end0
    exact ⟨rfl, by simp [*]⟩
theorem Keep.set_ {p : Nat → Prop} {w w' : World} (h : Keep p w w') (g i : Nat) (u : Value) (hp : g < w.heap.size → ¬ p g) : Keep p w (w'.setCell ⟨g, i, none⟩ u) :=
  ⟨h.os, h.tape, h.output, by simpa [World.setCell] using h.size, fun x hx hpx => (Below.heap_setCell w' _ _ x (fun e => hp (by rw [← show x = g from e]; exact hx) (by rw [← show x = g from e]; exact hpx))).trans (h.block x hx hpx)⟩
theorem arcs1_v {ws : World} {gout gi gm gr n k : Nat} (hn : n ≤ 10) (hk : k < n) {cs : Array Value}
    (bo : Blk ws gout 62 #[.slice (some ⟨gm, 0, none⟩) n n]) (bi : Blk ws gi 3 #[.int .i64 (k : Nat)]) (bm : Blk ws gm 67 cs) (hc : cs[k]? = some (.slice (some ⟨gr, 0, none⟩) n n)) (hr : gr < ws.heap.size) (h1 : gout ≠ gr) (h2 : gi ≠ gr) (h3 : gm ≠ gr) :
    LetV (ArcI ws gr n) 70 #[.pointer (some ⟨gout, 0, none⟩), .pointer (some ⟨gi, 0, none⟩)] n where
  enter := cf78
  fresh := fun pr S w h i hi => (h.2.2 i hi).2
  step := fun pr pr' S w w' h k hp =>
    ⟨⟨k.os.trans h.1.os, k.tape.trans h.1.tape, k.output.trans h.1.output, Nat.le_trans h.1.size k.size, fun i hi hne => (k.block i (Nat.lt_of_lt_of_le hi h.1.size) (fun hp => by have := (h.2.2 i hp).1; omega)).trans (h.1.block i hi hne)⟩,
     k.blk h.2.1 (fun hp => by have := (h.2.2 _ hp).1; omega),
     fun i hi => (hp i hi).elim (fun h' => ⟨(h.2.2 i h').1, Nat.lt_of_lt_of_le (h.2.2 i h').2 k.size⟩) (fun h' => ⟨Nat.le_trans h.1.size h'.1, h'.2⟩)⟩
  calls := fun pr S j odd tw w hj h => by
    have c := arcs1_call w gout gi gm gr n k j odd tw (S j).1 (S j).2 hn hk hj ((h.1.blk bo h1).cell 0) ((h.1.blk bi h2).cell 0)
      (by rw [(h.1.blk bm h3).cell]; exact hc) (by rw [h.2.1.cell]; exact rowC_odd n S j hj) (by rw [h.2.1.cell]; exact rowC_even n S j hj) (fun i => h.2.1.frozen i)
    refine c.mono fun e w' ⟨he, hw⟩ => ⟨he, ?_⟩
    subst hw
    have hb := (h.2.1.set_ (j * 2 + 1) (.bool ((S j).2 || (odd || tw)))).set_ (j * 2) (.bool ((S j).1 || (!odd || tw)))
    rw [rowC_set n S j odd tw hj] at hb
    refine ⟨⟨(h.1.set_ gr _ _ (fun _ h => h rfl)).set_ gr _ _ (fun _ h => h rfl), hb, fun i hi => ⟨(h.2.2 i hi).1, by simpa [World.setCell] using (h.2.2 i hi).2⟩⟩, ?_⟩
    exact ((Keep.refl pr w).set_ gr _ _ (fun _ hp => by have := (h.2.2 _ hp).1; omega)).set_ gr _ _ (fun _ hp => by have := (h.2.2 _ hp).1; omega)
end Go.Proofs.YtijaefmaceolbaaGreatDoor.Im

namespace Go.Proofs.YtijaefmaceolbaaGreatDoor.Im
open Go.RowKit Go.Proofs.YtijaefmaceolbaaGreatDoorW.PrintWords Go.Proofs.YtijaefmaceolbaaGreatDoorW.PrintLast Go.Proofs.YtijaefmaceolbaaGreatDoorW.PrintMore Go.Proofs.YtijaefmaceolbaaGreatDoor.Tr
set_option linter.unusedVariables false
set_option linter.unusedSimpArgs false
theorem infoSg : (Tryz.prog.info? 77).map (fun i => (i.zero, i.size, i.bytes)) = some (some (.agg #[.bool false, .bool false]), 2, 2) := by kernel_rfl
theorem infoRw : (Tryz.prog.info? 67).map (fun i => (i.zero, i.size, i.bytes)) = some (some (.slice none 0 0), 1, 24) := by kernel_rfl
theorem mkRow (n : Nat) (hn : n ≤ 10) (W : World) : (Instr.makeSlice 67 (.int .i64 (n : Int)) (.int .i64 (n : Int))).run Tryz.prog W = .ok (.slice (some ⟨W.heap.size, 0, none⟩) n n) (W.alloc (.cells (rowC n zeroS) 77)) := by
  obtain ⟨i0, hi, hzz⟩ := Option.map_eq_some_iff.1 infoSg
  simp only [Prod.mk.injEq] at hzz
  obtain ⟨hz0, hz1, hz2⟩ := hzz
  have hr := run_make (P := Tryz.prog) W 67 77 i0 _ Tryz.underlying67 hi hz0 .i64 .i64 (n : Int) (n : Int) (by omega) (by omega) (by rw [hz2]; omega) (by omega)
  simp only [Int.toNat_natCast] at hr
  rw [hz1] at hr
  rw [hr]
  have : (Value.agg #[Value.bool false, Value.bool false]).cells = #[.bool false, .bool false] := rfl
  rw [this, madeRow]
theorem mkMtx (n : Nat) (hn : n ≤ 10) (R : Nat → Nat) (W : World) : (Instr.makeSlice 62 (.int .i64 (n : Int)) (.int .i64 (n : Int))).run Tryz.prog W = .ok (.slice (some ⟨W.heap.size, 0, none⟩) n n) (W.alloc (.cells (mtxC n 0 R) 67)) := by
  rw [print_make_of 62 67 (.slice none 0 0) 24 Tryz.underlying62 infoRw rfl (by decide) n (by omega) W, madeMtx n R]
def sgF (fs : List Fm) (j : Nat) : Sg := letS (fmA fs j) false false zeroS
structure ArcR (w0 : World) (n : Nat) (fs : List Fm) (k gout gm : Nat) (R : Nat → Nat) (w : World) : Prop where
  bel : Below w0.heap.size w0 w
  bo : Blk w gout 62 #[.slice (some ⟨gm, 0, none⟩) n n]
  bm : Blk w gm 67 (mtxC n k R)
  br : ∀ j, j < k → Blk w (R j) 77 (rowC n (sgF fs j))
  lo : w0.heap.size ≤ gout ∧ w0.heap.size ≤ gm ∧ gout ≠ gm
theorem mtxC_no (n k : Nat) (R : Nat → Nat) (h : k < n) : (mtxC n k R)[k]? = some (.slice none 0 0) := by simp [mtxC, h]
structure ArcM (n : Nat) (fs : List Fm) (gm : Nat) (R : Nat → Nat) (w : World) : Prop where
  bm : Blk w gm 67 (mtxC n n R)
  br : ∀ j, j < n → Blk w (R j) 77 (rowC n (sgF fs j))
theorem ArcM.later {n : Nat} {fs : List Fm} {gm : Nat} {R : Nat → Nat} {w w' : World} (h : ArcM n fs gm R w) (hb : Below w.heap.size w w') : ArcM n fs gm R w' := ⟨h.bm.later hb, fun j hj => (h.br j hj).later hb⟩
def arcW (wr : World) (gm k n : Nat) : World := (((wr.setCell ⟨gm, k, none⟩ (.slice (some ⟨wr.heap.size + 1, 0, none⟩) n n)).alloc (.cells #[.int .i64 (k : Nat)] 3)).alloc (.cells (rowC n zeroS) 77)).drew
theorem arcW_size (wr : World) (gm k n : Nat) : (arcW wr gm k n).heap.size = wr.heap.size + 2 := by simp [arcW, World.setCell]
section
variable {w wr : World} {n k gout gm : Nat} {fs : List Fm} {R : Nat → Nat}
theorem ArcR.ne (h : ArcR w n fs k gout gm R wr) {j : Nat} (hj : j < k) : R j ≠ gm := fun e => by
  have h1 := h.br j hj
  have h2 := h.bm
  rw [e] at h1
  exact blk_ne h1 h2 (by decide) rfl
theorem arcW_keep (h : ArcR w n fs k gout gm R wr) : Keep (fun i => i ≠ gm) wr (arcW wr gm k n) := by
  have h1 : Keep (fun i => i ≠ gm) wr (wr.setCell ⟨gm, k, none⟩ (.slice (some ⟨wr.heap.size + 1, 0, none⟩) n n)) := (Keep.refl _ wr).set_ gm _ _ (fun _ h => h rfl)
  exact h1.trans (Keep.of_below (below_drew (below_alloc (below_alloc (Below.refl _ _) _) _)))
theorem arcW_bi (wr : World) (gm k n : Nat) : Blk (arcW wr gm k n) wr.heap.size 3 #[.int .i64 (k : Nat)] := ((Blk.new' (by simp [World.setCell])).alloc _).drew
theorem arcW_br (wr : World) (gm k n : Nat) : Blk (arcW wr gm k n) (wr.heap.size + 1) 77 (rowC n zeroS) := Blk.drew (Blk.new' (by simp [World.setCell]))
theorem arcW_bm (h : ArcR w n fs k gout gm R wr) : Blk (arcW wr gm k n) gm 67 (mtxC n (k + 1) (fun i => if i = k then wr.heap.size + 1 else R i)) := by
  have := (((h.bm.set_ k (.slice (some ⟨wr.heap.size + 1, 0, none⟩) n n)).alloc (.cells #[.int .i64 (k : Nat)] 3)).alloc (.cells (rowC n zeroS) 77)).drew
  rw [mtxC_set] at this
  exact this
theorem arc_let (S : Tr.Sys n fs) (h : ArcR w n fs k gout gm R wr) (hk : k < n) :
    Calls Tryz.prog (letF (fmA fs k)) #[payF (fmA fs k), .bool false, .bool false, .func (.func 70) #[] #[.pointer (some ⟨gout, 0, none⟩), .pointer (some ⟨wr.heap.size, 0, none⟩)]] (arcW wr gm k n)
      (fun e w' => e = .returned (.tuple #[]) ∧ ArcR w n fs (k + 1) gout gm (fun i => if i = k then wr.heap.size + 1 else R i) w') := by
  have hs := arcW_size wr gm k n
  have hgm := h.bm.lt
  have hgo := h.bo.lt
  have hK := arcW_keep h
  have V := arcs1_v (ws := arcW wr gm k n) (gr := wr.heap.size + 1) S.n10 hk (hK.blk h.bo h.lo.2.2) (arcW_bi wr gm k n) (arcW_bm h) (by rw [mtxC_get n (k + 1) _ k hk (by omega), if_pos rfl]) (by omega) (by omega) (by omega) (by omega)
  refine (letters_any V (fmA fs k) false false (fun _ => False) zeroS (arcW wr gm k n) (fmA_low S k) ⟨Keep.refl _ _, arcW_br wr gm k n, fun i hi => hi.elim⟩).mono fun e w' ⟨he, ⟨hkeep, hb, _⟩, _⟩ => ⟨he, ?_⟩
  have hall : Keep (fun i => i ≠ gm ∧ i ≠ wr.heap.size + 1) wr w' := (hK.mono (fun i _ hi => hi.1)).trans (hkeep.mono (fun i _ hi => hi.2))
  refine ⟨h.bel.trans (hall.below h.bel.size (fun i hi => ⟨by have := h.lo.2.1; omega, by have := h.bel.size; omega⟩)), hall.blk h.bo ⟨h.lo.2.2, by omega⟩, hkeep.blk (arcW_bm h) (by omega), fun j hj => ?_, h.lo⟩
  by_cases hjk : j = k
  · subst hjk
    rw [if_pos rfl]
    exact hb
  · rw [if_neg hjk]
    have hr := h.br j (by omega)
    exact hall.blk hr ⟨h.ne (by omega), by have := hr.lt; omega⟩
end
def ArcsPost (n : Nat) (fs : List Fm) (w : World) (e : Ending) (w' : World) : Prop :=
  ∃ gm R, e = .returned (.slice (some ⟨gm, 0, none⟩) n n) ∧ ArcM n fs gm R w' ∧ Below w.heap.size w w'
set_option maxHeartbeats 1600000 in
set_option maxRecDepth 100000 in
theorem arcs_any {n : Nat} {fs : List Fm} (S : Tr.Sys n fs) (w : World) (A : Option Addr) (c : Nat) (hC : Kd.C kF w A n fs) (hc : n ≤ c) :
    Calls Tryz.prog 41 #[.slice A n c] w (ArcsPost n fs w) := by
  have n10 : n ≤ 10 := S.n10
  have n0 : (0 : Int) ≤ (n : Int) := by omega
  have hmk := fun W => mkRow n n10 W
  have hmm := fun W => mkMtx n n10 (fun _ => 0) W
  have hmf : ∀ (fn : Fn) (first cap : Array Value) (w : World), (Instr.makeFunc fn first cap).run Tryz.prog w = .ok (.func fn first cap) w := fun _ _ _ _ => rfl
  have HC := Aside0.mk hC
  have HS := Aside0.mk S
  clear hC S
  go_enter Tryz.func41, Tryz.ntmps41
  go_wp2_with fail
  have hR0 : ArcR w n fs 0 (w.heap.size + 1) w.heap.size (fun _ => 0) ((w.alloc (.cells (mtxC n 0 fun _ => 0) 67)).alloc (.cells #[.slice (some ⟨w.heap.size, 0, none⟩) n n] 62)) :=
    ⟨below_alloc (below_alloc (Below.refl _ _) _) _, Blk.new' (by simp), (Blk.new _ _ _).alloc _, fun j hj => absurd hj (by omega), by omega, by omega, by omega⟩
  have HR0 := Aside0.mk hR0
  clear hR0
  go_loopw [11] (fun v wr => ∃ (k : Nat) (R : Nat → Nat), k ≤ n ∧ v = .int .i64 (k : Int) ∧ Aside0 (ArcR w n fs k (w.heap.size + 1) w.heap.size R wr)) (fun v _ => n - (intOf v).toNat)
  case atStart => exact ⟨0, fun _ => 0, by omega, rfl, HR0⟩
  case round =>
    clear HR0 hmm
    obtain ⟨k, R, hk, rfl, HR⟩ := hrel
    by_cases hkn : k < n
    · have k0 : (0 : Int) ≤ (k : Int) := by omega
      have hkn' : (k : Int) < (n : Int) := by omega
      obtain ⟨ad, rfl, hcell⟩ := at_F (Kd.C_below HC.out HR.out.bel) k hkn
      obtain ⟨t, u, he, hm, hcf⟩ := let_open (fmA fs k)
      rw [he] at hcell
      -- the row's place, the box of the number
      have co : wr.cell? ⟨w.heap.size + 1, 0, none⟩ = some (.slice (some ⟨w.heap.size, 0, none⟩) n n) := HR.out.bo.cell 0
      have hgm : w.heap.size < wr.heap.size := HR.out.bm.lt
      have hgo : w.heap.size + 1 < wr.heap.size := HR.out.bo.lt
      have fm : wr.frozen? ⟨w.heap.size, k, none⟩ = false := HR.out.bm.frozen k
      have HHE := Aside0.mk he
      clear he
      have cm : wr.cell? ⟨w.heap.size, k, none⟩ = some (.slice none 0 0) := by rw [HR.out.bm.cell]; exact mtxC_no n k R hkn
      go_wp2_with fail
      go_region
      have HL := Aside0.mk (arc_let HS.out HR.out hkn)
      unfold arcW at HL
      generalize letF (fmA fs k) = φ at *
      generalize payF (fmA fs k) = π at *
      clear cm co fm hgm hgo hcell
      go_wp2_with fail
      refine HL.out.mono ?_
      rintro e w2 ⟨rfl, hR2⟩
      have HR2 := Aside0.mk hR2
      clear hR2
      go_wp2_with fail
      go_roundw
      case rel => exact ⟨k + 1, _, by omega, by go_num, HR2⟩
      case measure => simp [intOf]; omega
    · obtain rfl : n = k := by omega
      have co : wr.cell? ⟨w.heap.size + 1, 0, none⟩ = some (.slice (some ⟨w.heap.size, 0, none⟩) n n) := HR.out.bo.cell 0
      go_wp2_with fail
      go_ret
      exact ⟨_, _, rfl, ⟨HR.out.bm, HR.out.br⟩, HR.out.bel⟩
end Go.Proofs.YtijaefmaceolbaaGreatDoor.Im

namespace Go.Proofs.YtijaefmaceolbaaGreatDoor.Im
open Go.RowKit Go.Proofs.YtijaefmaceolbaaGreatDoorW.PrintWords Go.Proofs.YtijaefmaceolbaaGreatDoorW.PrintLast Go.Proofs.YtijaefmaceolbaaGreatDoorW.PrintMore
attribute [local go_sem] max2_int min2_int max_two min_two max_three min_three max_four min_four
set_option linter.unusedVariables false
set_option linter.unusedSimpArgs false
theorem info39 : (Tryz.prog.info? 39).map (fun i => (i.zero, i.size, i.bytes)) = some (some (.slice none 0 0), 1, 24) := by kernel_rfl
theorem infoNd : (Tryz.prog.info? 99).map (fun i => (i.zero, i.size, i.bytes)) = some (some (.agg #[(.int .u8 0), (.slice none 0 0)]), 2, 32) := by kernel_rfl
def rd_L2 (xs : List (List Int)) (i : Int) : (List Int) := xs.getD i.toNat ([] : List Int)
theorem at_L2 {w : World} {A : Option Addr} {n : Nat} {xs : List (List Int)} (h : Kd.C (Kd.slice 3 (Kd.int .i64)) w A n xs) (i : Int) (h0 : 0 ≤ i) (h1 : i < n) : ∃ ad A0 c0, A = some ad ∧ w.cell? (ad.add i.toNat) = some (.slice A0 (rd_L2 xs i).length c0) ∧ (rd_L2 xs i).length ≤ c0 ∧ (Kd.int .i64).C w A0 (rd_L2 xs i).length (rd_L2 xs i) := by
  obtain ⟨ad, c, e, _, hK, hc0⟩ := Kd.C_get h ([] : List Int) i h0 h1
  have hc : ∀ j u, c[j]? = some u → w.cell? (ad.add (i.toNat * 1 + j)) = some u := hc0
  obtain ⟨A0, c0, rfl, l0, g0⟩ := hK
  exact ⟨ad, A0, c0, e, by have hq := hc 0 _ rfl; rwa [Nat.mul_one, Nat.add_zero] at hq, l0, g0⟩
structure SNd where
  f0 : Int
  f1 : (List SNd)
def zNd : SNd := ⟨(0 : Int), ([] : List SNd)⟩
def FNd (d : Kd SNd) : Kd SNd := Kd.iso (Kd.pair (Kd.int .u8) (Kd.slice 99 d)) (fun x : SNd => (x.f0, x.f1))
theorem monoNd : Kd.Mono FNd := Kd.mono_iso _ (Kd.mono_pair (Kd.mono_const _) (Kd.mono_slice 99 Kd.mono_id))
theorem subNd : Kd.Sub FNd [99] := Kd.sub_iso _ (Kd.sub_pair (Kd.sub_const _ (by decide)) (Kd.sub_slice 99 (by decide) Kd.sub_id))
theorem szNd : ∀ n, (Kd.upto FNd 2 [99] n).sz = 2 := Kd.upto_sz (fun _ => rfl)
def kNd : Kd SNd := Kd.fix FNd 2 [99] szNd (Kd.upto_E subNd)
theorem kNd_open {w : World} {x : SNd} {cs : List Value} (h : kNd.K w x cs) : ∃ A1 c1, cs = [.int .u8 x.f0, .slice A1 x.f1.length c1] ∧ x.f1.length ≤ c1 ∧ kNd.C w A1 x.f1.length x.f1 := by
  obtain ⟨n, h⟩ := h
  cases n with
  | zero => exact h.elim
  | succ n =>
    obtain ⟨_, _, rfl, rfl, ⟨A1, c1, rfl, l1, g1⟩⟩ := h
    exact ⟨A1, c1, rfl, l1, Kd.fix_C g1⟩
theorem kNd_openM {w : World} {base : Nat} {ok : Nat → Prop} {x : SNd} {cs : List Value} (h : kNd.M w base ok x cs) : ∃ v1, cs = [.int .u8 x.f0, v1] ∧ kNd.R 99 w base ok v1 x.f1 := by
  obtain ⟨n, h⟩ := h
  cases n with
  | zero => exact h.elim
  | succ n =>
    obtain ⟨_, _, rfl, rfl, ⟨v1, rfl, g1⟩⟩ := h
    exact ⟨v1, rfl, Kd.fix_R g1⟩
theorem kNd_mkM (w : World) (base : Nat) (ok : Nat → Prop) (x : SNd) {v1 : Value} (g1 : kNd.R 99 w base ok v1 x.f1) : kNd.M w base ok x [.int .u8 x.f0, v1] := by
  obtain ⟨n1, q1⟩ := Kd.fix_R_back monoNd g1
  have r1 := Kd.upto_R_le monoNd szNd (show n1 ≤ n1 by omega) q1
  exact ⟨n1 + 1, ⟨[.int .u8 x.f0], [v1], rfl, rfl, ⟨v1, rfl, r1⟩⟩⟩
def rd_TNd (xs : List SNd) (i : Int) : SNd := xs.getD i.toNat zNd
theorem at_TNd {w : World} {A : Option Addr} {n : Nat} {xs : List SNd} (h : Kd.C kNd w A n xs) (i : Int) (h0 : 0 ≤ i) (h1 : i < n) : ∃ ad A1 c1, A = some ad ∧ w.cell? (ad.add (i.toNat * 2)) = some (.int .u8 (rd_TNd xs i).f0) ∧ w.cell? ⟨(ad.add (i.toNat * 2)).block, (ad.add (i.toNat * 2)).off + 1, none⟩ = some (.slice A1 (rd_TNd xs i).f1.length c1) ∧ (rd_TNd xs i).f1.length ≤ c1 ∧ kNd.C w A1 (rd_TNd xs i).f1.length (rd_TNd xs i).f1 := by
  obtain ⟨ad, c, e, _, hK, hc0⟩ := Kd.C_get h zNd i h0 h1
  have hc : ∀ j u, c[j]? = some u → w.cell? (ad.add (i.toNat * 2 + j)) = some u := hc0
  obtain ⟨A1, c1, rfl, l1, g1⟩ := kNd_open hK
  exact ⟨ad, A1, c1, e, hc 0 _ rfl, by rw [← add_field _ _ 1 (by omega)]; exact hc 1 _ rfl, l1, g1⟩
end Go.Proofs.YtijaefmaceolbaaGreatDoor.Im

namespace Go.Proofs.YtijaefmaceolbaaGreatDoor.Im
open Go.RowKit Go.Proofs.YtijaefmaceolbaaGreatDoorW.PrintWords Go.Proofs.YtijaefmaceolbaaGreatDoorW.PrintLast Go.Proofs.YtijaefmaceolbaaGreatDoorW.PrintMore
attribute [local go_sem] max2_int min2_int max_two min_two max_three min_three max_four min_four
set_option linter.unusedVariables false
set_option linter.unusedSimpArgs false
def pomadelaw01_few.l0 : Nat → List ByteArray → Int → Option (Bool)
  | 0, _, _ => none
  | k + 1, x0, x3 => if x3 < (x0.length : Int) then (if x3 ≥ 20 then (some false) else (if 0 ≤ x3 then (if ((rdOf ByteArray.empty x0 x3).size : Int) > 100 then (some false) else (pomadelaw01_few.l0 k x0 (wrap64 (x3 + 1)))) else (none))) else (some true)
def pomadelaw01_few.f (k : Nat) (l0 : List ByteArray) : Option (Bool) := pomadelaw01_few.l0 k l0 0
theorem pomadelaw01_few.mono_l : ∀ k, (∀ y0 y1, LeO (pomadelaw01_few.l0 k y0 y1) (pomadelaw01_few.l0 (k + 1) y0 y1))
  | 0 => fun _ _ r h => by simp [pomadelaw01_few.l0] at h
  | k + 1 => by
    have ih0 := pomadelaw01_few.mono_l k
    · intro y0 y1
      unfold pomadelaw01_few.l0
      repeat' first
      | (with_reducible exact ih0 _ _)
      | (with_reducible exact LeO.refl _)
      | (with_reducible exact LeO.none _)
      | (with_reducible refine LeO.ite ?_ ?_)
      | (with_reducible refine LeO.bind ?_ (fun _ => ?_))
      | exact ih0 _ _
      | exact LeO.none _
      | refine LeO.ite ?_ ?_
      | refine LeO.bind ?_ (fun _ => ?_)
theorem pomadelaw01_few.mono : ∀ a0 k, LeO (pomadelaw01_few.f k a0) (pomadelaw01_few.f (k + 1) a0) := by
  intro a0 k
  have ih0 := pomadelaw01_few.mono_l k
  unfold pomadelaw01_few.f
  repeat' first
      | (with_reducible exact ih0 _ _)
      | (with_reducible exact LeO.refl _)
      | (with_reducible exact LeO.none _)
      | (with_reducible refine LeO.ite ?_ ?_)
      | (with_reducible refine LeO.bind ?_ (fun _ => ?_))
      | exact ih0 _ _
      | exact LeO.none _
      | refine LeO.ite ?_ ?_
      | refine LeO.bind ?_ (fun _ => ?_)
set_option maxHeartbeats 8000000 in
set_option maxRecDepth 100000 in
theorem pomadelaw01_few.calls (k : Nat) (A0 : Option Addr) (c0 : Nat) (l0 : List ByteArray) (r : Bool) (w : World) (hr0 : Kd.C Kd.string w A0 l0.length l0) (hc0 : l0.length ≤ c0) (h : pomadelaw01_few.f k l0 = some r) :
    Calls Tryz.prog 6 #[.slice A0 l0.length c0] w fun e w' => e = .returned (.bool r) ∧ Drawn0 w w' := by
  have HR0 := Aside0.mk hr0
  have HC0 := Aside0.mk hc0
  clear hr0 hc0
  have H : (pomadelaw01_few.l0 k l0 0) = some r := h
  clear h
  have H' := Aside0.mk H
  clear H
  go_enter Tryz.func6, Tryz.ntmps6
  go_wp2
  go_loopg [3] k (fun kq v3 w' => ∃ (x3_1 : Int), v3 = .int .i64 x3_1 ∧ Aside0 (pomadelaw01_few.l0 kq l0 x3_1 = some r) ∧ Aside0 (kq ≤ k) ∧ Drawn0 w w')
  case atStart => exact ⟨(0), (by first | rfl | (simp; done) | (simp [*]; done)), H', ⟨Nat.le_refl _⟩, by repeat (first | exact Drawn0.refl _ | apply Drawn0.step)⟩
  case round =>
    clear H'
    obtain ⟨x3_1, rfl, HA, HK1, ⟨m1, rfl⟩⟩ := hrel
    cases gk with
    | zero => exact absurd HA.out (by simp [pomadelaw01_few.l0])
    | succ k1 =>
      have H := HA.out
      clear HA
      simp only [pomadelaw01_few.l0] at H
      by_cases c2 : x3_1 < (l0.length : Int)
      · rw [if_pos c2] at H
        have c2b0 : decide (x3_1 < (l0.length : Int)) = true := decide_eq_true c2
        clear c2
        by_cases c3 : x3_1 ≥ 20
        · rw [if_pos c3] at H
          have c3b0 : decide (20 ≤ x3_1) = true := decide_eq_true c3
          clear c3
          obtain rfl := Option.some.inj H
          go_wp2
          go_ret
          exact ⟨by first | rfl | (simp; done) | (simp [*]; done), by repeat (first | exact Drawn0.refl _ | apply Drawn0.step)⟩
        · rw [if_neg c3] at H
          have c3b0 : decide (20 ≤ x3_1) = false := decide_eq_false c3
          clear c3
          by_cases c4 : 0 ≤ x3_1
          · rw [if_pos c4] at H
            have c4b0 : decide (0 ≤ x3_1) = true := decide_eq_true c4
            clear c4
            by_cases c5 : ((rdOf ByteArray.empty l0 x3_1).size : Int) > 100
            · rw [if_pos c5] at H
              have c5b0 : decide (100 < ((rdOf ByteArray.empty l0 x3_1).size : Int)) = true := decide_eq_true c5
              have c5b1 : decide (100 < (rdOf ByteArray.empty l0 x3_1).size) = true := decide_eq_true (by omega)
              clear c5
              obtain rfl := Option.some.inj H
              have p101 : 0 ≤ (x3_1 : Int) := of_decide_eq_true (by first | (with_reducible assumption) | assumption)
              have q101 : x3_1 < (l0.length : Int) := of_decide_eq_true (by first | (with_reducible assumption) | assumption)
              obtain ⟨ad101, e101, hx101_0⟩ := Kd.at_string HR0.out x3_1 p101 q101
              cases e101
              replace p101 := eq_true p101
              replace q101 := eq_true q101
              go_wp2
              go_ret
              exact ⟨by first | rfl | (simp; done) | (simp [*]; done), by repeat (first | exact Drawn0.refl _ | apply Drawn0.step)⟩
            · rw [if_neg c5] at H
              have c5b0 : decide (100 < ((rdOf ByteArray.empty l0 x3_1).size : Int)) = false := decide_eq_false c5
              have c5b1 : decide (100 < (rdOf ByteArray.empty l0 x3_1).size) = false := decide_eq_false (by omega)
              clear c5
              have H' := Aside0.mk H
              clear H
              have p101 : 0 ≤ (x3_1 : Int) := of_decide_eq_true (by first | (with_reducible assumption) | assumption)
              have q101 : x3_1 < (l0.length : Int) := of_decide_eq_true (by first | (with_reducible assumption) | assumption)
              obtain ⟨ad101, e101, hx101_0⟩ := Kd.at_string HR0.out x3_1 p101 q101
              cases e101
              replace p101 := eq_true p101
              replace q101 := eq_true q101
              go_wp2
              go_roundg k1
              case measure => have := HK1.out; omega
              case rel => exact ⟨(wrap64 (x3_1 + 1)), (by first | rfl | (simp; done) | (simp [*]; done)), H', ⟨by have := HK1.out; omega⟩, by repeat (first | exact Drawn0.refl _ | apply Drawn0.step)⟩
          · rw [if_neg c4] at H
            exact absurd H (by simp)
      · rw [if_neg c2] at H
        have c2b0 : decide (x3_1 < (l0.length : Int)) = false := decide_eq_false c2
        clear c2
        obtain rfl := Option.some.inj H
        go_wp2
        go_ret
        exact ⟨by first | rfl | (simp; done) | (simp [*]; done), by repeat (first | exact Drawn0.refl _ | apply Drawn0.step)⟩
def pomadelaw01_same.l0 : Nat → List Int → List Int → Int → Option (Bool)
  | 0, _, _, _ => none
  | k + 1, x0, x1, x5 => if x5 < (x0.length : Int) then (if 0 ≤ x5 then (if x5 < (x1.length : Int) then (if (rd x0 x5) = (rd x1 x5) then (pomadelaw01_same.l0 k x0 x1 (wrap64 (x5 + 1))) else (some false)) else (none)) else (none)) else (some true)
def pomadelaw01_same.f (k : Nat) (l0 : List Int) (l1 : List Int) : Option (Bool) := if (l0.length : Int) = (l1.length : Int) then (pomadelaw01_same.l0 k l0 l1 0) else (some false)
theorem pomadelaw01_same.mono_l : ∀ k, (∀ y0 y1 y2, LeO (pomadelaw01_same.l0 k y0 y1 y2) (pomadelaw01_same.l0 (k + 1) y0 y1 y2))
  | 0 => fun _ _ _ r h => by simp [pomadelaw01_same.l0] at h
  | k + 1 => by
    have ih0 := pomadelaw01_same.mono_l k
    · intro y0 y1 y2
      unfold pomadelaw01_same.l0
      repeat' first
      | (with_reducible exact ih0 _ _ _)
      | (with_reducible exact LeO.refl _)
      | (with_reducible exact LeO.none _)
      | (with_reducible refine LeO.ite ?_ ?_)
      | (with_reducible refine LeO.bind ?_ (fun _ => ?_))
      | exact ih0 _ _ _
      | exact LeO.none _
      | refine LeO.ite ?_ ?_
      | refine LeO.bind ?_ (fun _ => ?_)
theorem pomadelaw01_same.mono : ∀ a0 a1 k, LeO (pomadelaw01_same.f k a0 a1) (pomadelaw01_same.f (k + 1) a0 a1) := by
  intro a0 a1 k
  have ih0 := pomadelaw01_same.mono_l k
  unfold pomadelaw01_same.f
  repeat' first
      | (with_reducible exact ih0 _ _ _)
      | (with_reducible exact LeO.refl _)
      | (with_reducible exact LeO.none _)
      | (with_reducible refine LeO.ite ?_ ?_)
      | (with_reducible refine LeO.bind ?_ (fun _ => ?_))
      | exact ih0 _ _ _
      | exact LeO.none _
      | refine LeO.ite ?_ ?_
      | refine LeO.bind ?_ (fun _ => ?_)
set_option maxHeartbeats 8000000 in
set_option maxRecDepth 100000 in
theorem pomadelaw01_same.calls (k : Nat) (A0 : Option Addr) (c0 : Nat) (l0 : List Int) (A1 : Option Addr) (c1 : Nat) (l1 : List Int) (r : Bool) (w : World) (hr0 : Kd.C (Kd.int .i64) w A0 l0.length l0) (hc0 : l0.length ≤ c0) (hr1 : Kd.C (Kd.int .i64) w A1 l1.length l1) (hc1 : l1.length ≤ c1) (h : pomadelaw01_same.f k l0 l1 = some r) :
    Calls Tryz.prog 26 #[.slice A0 l0.length c0, .slice A1 l1.length c1] w fun e w' => e = .returned (.bool r) ∧ Drawn0 w w' := by
  have HR0 := Aside0.mk hr0
  have HC0 := Aside0.mk hc0
  clear hr0 hc0
  have HR1 := Aside0.mk hr1
  have HC1 := Aside0.mk hc1
  clear hr1 hc1
  have H : (if (l0.length : Int) = (l1.length : Int) then (pomadelaw01_same.l0 k l0 l1 0) else (some false)) = some r := h
  clear h
  by_cases c3 : (l0.length : Int) = (l1.length : Int)
  · rw [if_pos c3] at H
    have c3b0 : ((l0.length : Int) == (l1.length : Int)) = true := beq_iff_eq.mpr c3
    have c3b1 : ((l0.length : Int) != (l1.length : Int)) = false := bne_eq_false_iff_eq.mpr c3
    have c3b2 : (l0.length == l1.length) = true := by first | simpa using c3 | (simp at c3 ⊢; omega)
    clear c3
    have H' := Aside0.mk H
    clear H
    go_enter Tryz.func26, Tryz.ntmps26
    go_wp2
    repeat (go_quiet (fail); try go_wp2)
    go_loopg [5] k (fun kq v5 w' => ∃ (x5_1 : Int), v5 = .int .i64 x5_1 ∧ Aside0 (pomadelaw01_same.l0 kq l0 l1 x5_1 = some r) ∧ Aside0 (kq ≤ k) ∧ Drawn0 w w')
    case atStart => exact ⟨(0), (by first | rfl | (simp; done) | (simp [*]; done)), H', ⟨Nat.le_refl _⟩, by repeat (first | exact Drawn0.refl _ | apply Drawn0.step)⟩
    case round =>
      clear H'
      try clear c1
      try clear c2
      try clear p2
      try clear c3
      try clear c3b0
      try clear c3b1
      try clear c3b2
      obtain ⟨x5_1, rfl, HA, HK1, ⟨m1, rfl⟩⟩ := hrel
      cases gk with
      | zero => exact absurd HA.out (by simp [pomadelaw01_same.l0])
      | succ k1 =>
        have H := HA.out
        clear HA
        simp only [pomadelaw01_same.l0] at H
        by_cases c4 : x5_1 < (l0.length : Int)
        · rw [if_pos c4] at H
          have c4b0 : decide (x5_1 < (l0.length : Int)) = true := decide_eq_true c4
          clear c4
          by_cases c5 : 0 ≤ x5_1
          · rw [if_pos c5] at H
            have c5b0 : decide (0 ≤ x5_1) = true := decide_eq_true c5
            clear c5
            by_cases c6 : x5_1 < (l1.length : Int)
            · rw [if_pos c6] at H
              have c6b0 : decide (x5_1 < (l1.length : Int)) = true := decide_eq_true c6
              clear c6
              by_cases c7 : (rd l0 x5_1) = (rd l1 x5_1)
              · rw [if_pos c7] at H
                have c7b0 : ((rd l0 x5_1) == (rd l1 x5_1)) = true := beq_iff_eq.mpr c7
                have c7b1 : ((rd l0 x5_1) != (rd l1 x5_1)) = false := bne_eq_false_iff_eq.mpr c7
                clear c7
                have H' := Aside0.mk H
                clear H
                have p120 : 0 ≤ (x5_1 : Int) := of_decide_eq_true (by first | (with_reducible assumption) | assumption)
                have q120 : x5_1 < (l0.length : Int) := of_decide_eq_true (by first | (with_reducible assumption) | assumption)
                obtain ⟨ad120, e120, hx120_0⟩ := Kd.at_int HR0.out x5_1 p120 q120
                cases e120
                replace p120 := eq_true p120
                replace q120 := eq_true q120
                have p121 : 0 ≤ (x5_1 : Int) := of_decide_eq_true (by first | (with_reducible assumption) | assumption)
                have q121 : x5_1 < (l1.length : Int) := of_decide_eq_true (by first | (with_reducible assumption) | assumption)
                obtain ⟨ad121, e121, hx121_0⟩ := Kd.at_int HR1.out x5_1 p121 q121
                cases e121
                replace p121 := eq_true p121
                replace q121 := eq_true q121
                go_wp2
                repeat (go_quiet (fail); try go_wp2)
                go_roundg k1
                case measure => have := HK1.out; omega
                case rel => exact ⟨(wrap64 (x5_1 + 1)), (by first | rfl | (simp; done) | (simp [*]; done)), H', ⟨by have := HK1.out; omega⟩, by repeat (first | exact Drawn0.refl _ | apply Drawn0.step)⟩
              · rw [if_neg c7] at H
                have c7b0 : ((rd l0 x5_1) == (rd l1 x5_1)) = false := beq_eq_false_iff_ne.mpr c7
                have c7b1 : ((rd l0 x5_1) != (rd l1 x5_1)) = true := bne_iff_ne.mpr c7
                obtain rfl := Option.some.inj H
                have p120 : 0 ≤ (x5_1 : Int) := of_decide_eq_true (by first | (with_reducible assumption) | assumption)
                have q120 : x5_1 < (l0.length : Int) := of_decide_eq_true (by first | (with_reducible assumption) | assumption)
                obtain ⟨ad120, e120, hx120_0⟩ := Kd.at_int HR0.out x5_1 p120 q120
                cases e120
                replace p120 := eq_true p120
                replace q120 := eq_true q120
                have p121 : 0 ≤ (x5_1 : Int) := of_decide_eq_true (by first | (with_reducible assumption) | assumption)
                have q121 : x5_1 < (l1.length : Int) := of_decide_eq_true (by first | (with_reducible assumption) | assumption)
                obtain ⟨ad121, e121, hx121_0⟩ := Kd.at_int HR1.out x5_1 p121 q121
                cases e121
                replace p121 := eq_true p121
                replace q121 := eq_true q121
                go_wp2
                repeat (go_quiet (fail); try go_wp2)
                go_ret
                exact ⟨by first | rfl | (simp; done) | (simp [*]; done), by repeat (first | exact Drawn0.refl _ | apply Drawn0.step)⟩
            · rw [if_neg c6] at H
              exact absurd H (by simp)
          · rw [if_neg c5] at H
            exact absurd H (by simp)
        · rw [if_neg c4] at H
          have c4b0 : decide (x5_1 < (l0.length : Int)) = false := decide_eq_false c4
          clear c4
          obtain rfl := Option.some.inj H
          go_wp2
          repeat (go_quiet (fail); try go_wp2)
          go_ret
          exact ⟨by first | rfl | (simp; done) | (simp [*]; done), by repeat (first | exact Drawn0.refl _ | apply Drawn0.step)⟩
  · rw [if_neg c3] at H
    have c3b0 : ((l0.length : Int) == (l1.length : Int)) = false := beq_eq_false_iff_ne.mpr c3
    have c3b1 : ((l0.length : Int) != (l1.length : Int)) = true := bne_iff_ne.mpr c3
    have c3b2 : (l0.length == l1.length) = false := by first | simpa using c3 | (simp at c3 ⊢; omega)
    obtain rfl := Option.some.inj H
    go_enter Tryz.func26, Tryz.ntmps26
    go_wp2
    repeat (go_quiet (fail); try go_wp2)
    go_ret
    exact ⟨by first | rfl | (simp; done) | (simp [*]; done), by repeat (first | exact Drawn0.refl _ | apply Drawn0.step)⟩
def pomadelaw01_texts.l0 : Nat → List ByteArray → List ByteArray → Int → Option (Bool)
  | 0, _, _, _ => none
  | k + 1, x0, x1, x5 => if x5 < (x0.length : Int) then (if 0 ≤ x5 then (if x5 < (x1.length : Int) then (if (rdOf ByteArray.empty x0 x5).toList = (rdOf ByteArray.empty x1 x5).toList then (pomadelaw01_texts.l0 k x0 x1 (wrap64 (x5 + 1))) else (some false)) else (none)) else (none)) else (some true)
def pomadelaw01_texts.f (k : Nat) (l0 : List ByteArray) (l1 : List ByteArray) : Option (Bool) := if (l0.length : Int) = (l1.length : Int) then (pomadelaw01_texts.l0 k l0 l1 0) else (some false)
theorem pomadelaw01_texts.mono_l : ∀ k, (∀ y0 y1 y2, LeO (pomadelaw01_texts.l0 k y0 y1 y2) (pomadelaw01_texts.l0 (k + 1) y0 y1 y2))
  | 0 => fun _ _ _ r h => by simp [pomadelaw01_texts.l0] at h
  | k + 1 => by
    have ih0 := pomadelaw01_texts.mono_l k
    · intro y0 y1 y2
      unfold pomadelaw01_texts.l0
      repeat' first
      | (with_reducible exact ih0 _ _ _)
      | (with_reducible exact LeO.refl _)
      | (with_reducible exact LeO.none _)
      | (with_reducible refine LeO.ite ?_ ?_)
      | (with_reducible refine LeO.bind ?_ (fun _ => ?_))
      | exact ih0 _ _ _
      | exact LeO.none _
      | refine LeO.ite ?_ ?_
      | refine LeO.bind ?_ (fun _ => ?_)
theorem pomadelaw01_texts.mono : ∀ a0 a1 k, LeO (pomadelaw01_texts.f k a0 a1) (pomadelaw01_texts.f (k + 1) a0 a1) := by
  intro a0 a1 k
  have ih0 := pomadelaw01_texts.mono_l k
  unfold pomadelaw01_texts.f
  repeat' first
      | (with_reducible exact ih0 _ _ _)
      | (with_reducible exact LeO.refl _)
      | (with_reducible exact LeO.none _)
      | (with_reducible refine LeO.ite ?_ ?_)
      | (with_reducible refine LeO.bind ?_ (fun _ => ?_))
      | exact ih0 _ _ _
      | exact LeO.none _
      | refine LeO.ite ?_ ?_
      | refine LeO.bind ?_ (fun _ => ?_)
set_option maxHeartbeats 8000000 in
set_option maxRecDepth 100000 in
theorem pomadelaw01_texts.calls (k : Nat) (A0 : Option Addr) (c0 : Nat) (l0 : List ByteArray) (A1 : Option Addr) (c1 : Nat) (l1 : List ByteArray) (r : Bool) (w : World) (hr0 : Kd.C Kd.string w A0 l0.length l0) (hc0 : l0.length ≤ c0) (hr1 : Kd.C Kd.string w A1 l1.length l1) (hc1 : l1.length ≤ c1) (h : pomadelaw01_texts.f k l0 l1 = some r) :
    Calls Tryz.prog 19 #[.slice A0 l0.length c0, .slice A1 l1.length c1] w fun e w' => e = .returned (.bool r) ∧ Drawn0 w w' := by
  have HR0 := Aside0.mk hr0
  have HC0 := Aside0.mk hc0
  clear hr0 hc0
  have HR1 := Aside0.mk hr1
  have HC1 := Aside0.mk hc1
  clear hr1 hc1
  have H : (if (l0.length : Int) = (l1.length : Int) then (pomadelaw01_texts.l0 k l0 l1 0) else (some false)) = some r := h
  clear h
  by_cases c3 : (l0.length : Int) = (l1.length : Int)
  · rw [if_pos c3] at H
    have c3b0 : ((l0.length : Int) == (l1.length : Int)) = true := beq_iff_eq.mpr c3
    have c3b1 : ((l0.length : Int) != (l1.length : Int)) = false := bne_eq_false_iff_eq.mpr c3
    have c3b2 : (l0.length == l1.length) = true := by first | simpa using c3 | (simp at c3 ⊢; omega)
    clear c3
    have H' := Aside0.mk H
    clear H
    go_enter Tryz.func19, Tryz.ntmps19
    go_wp2
    repeat (go_quiet (fail); try go_wp2)
    go_loopg [5] k (fun kq v5 w' => ∃ (x5_1 : Int), v5 = .int .i64 x5_1 ∧ Aside0 (pomadelaw01_texts.l0 kq l0 l1 x5_1 = some r) ∧ Aside0 (kq ≤ k) ∧ Drawn0 w w')
    case atStart => exact ⟨(0), (by first | rfl | (simp; done) | (simp [*]; done)), H', ⟨Nat.le_refl _⟩, by repeat (first | exact Drawn0.refl _ | apply Drawn0.step)⟩
    case round =>
      clear H'
      try clear c1
      try clear p2
      try clear c3
      try clear c3b0
      try clear c3b1
      try clear c3b2
      obtain ⟨x5_1, rfl, HA, HK1, ⟨m1, rfl⟩⟩ := hrel
      cases gk with
      | zero => exact absurd HA.out (by simp [pomadelaw01_texts.l0])
      | succ k1 =>
        have H := HA.out
        clear HA
        simp only [pomadelaw01_texts.l0] at H
        by_cases c4 : x5_1 < (l0.length : Int)
        · rw [if_pos c4] at H
          have c4b0 : decide (x5_1 < (l0.length : Int)) = true := decide_eq_true c4
          clear c4
          by_cases c5 : 0 ≤ x5_1
          · rw [if_pos c5] at H
            have c5b0 : decide (0 ≤ x5_1) = true := decide_eq_true c5
            clear c5
            by_cases c6 : x5_1 < (l1.length : Int)
            · rw [if_pos c6] at H
              have c6b0 : decide (x5_1 < (l1.length : Int)) = true := decide_eq_true c6
              clear c6
              by_cases c7 : (rdOf ByteArray.empty l0 x5_1).toList = (rdOf ByteArray.empty l1 x5_1).toList
              · rw [if_pos c7] at H
                have c7b0 : ((rdOf ByteArray.empty l0 x5_1).toList == (rdOf ByteArray.empty l1 x5_1).toList) = true := beq_iff_eq.mpr c7
                have c7b1 : ((rdOf ByteArray.empty l0 x5_1).toList != (rdOf ByteArray.empty l1 x5_1).toList) = false := bne_eq_false_iff_eq.mpr c7
                clear c7
                have H' := Aside0.mk H
                clear H
                have p186 : 0 ≤ (x5_1 : Int) := of_decide_eq_true (by first | (with_reducible assumption) | assumption)
                have q186 : x5_1 < (l0.length : Int) := of_decide_eq_true (by first | (with_reducible assumption) | assumption)
                obtain ⟨ad186, e186, hx186_0⟩ := Kd.at_string HR0.out x5_1 p186 q186
                cases e186
                replace p186 := eq_true p186
                replace q186 := eq_true q186
                have p187 : 0 ≤ (x5_1 : Int) := of_decide_eq_true (by first | (with_reducible assumption) | assumption)
                have q187 : x5_1 < (l1.length : Int) := of_decide_eq_true (by first | (with_reducible assumption) | assumption)
                obtain ⟨ad187, e187, hx187_0⟩ := Kd.at_string HR1.out x5_1 p187 q187
                cases e187
                replace p187 := eq_true p187
                replace q187 := eq_true q187
                go_wp2
                repeat (go_quiet (fail); try go_wp2)
                go_roundg k1
                case measure => have := HK1.out; omega
                case rel => exact ⟨(wrap64 (x5_1 + 1)), (by first | rfl | (simp; done) | (simp [*]; done)), H', ⟨by have := HK1.out; omega⟩, by repeat (first | exact Drawn0.refl _ | apply Drawn0.step)⟩
              · rw [if_neg c7] at H
                have c7b0 : ((rdOf ByteArray.empty l0 x5_1).toList == (rdOf ByteArray.empty l1 x5_1).toList) = false := beq_eq_false_iff_ne.mpr c7
                have c7b1 : ((rdOf ByteArray.empty l0 x5_1).toList != (rdOf ByteArray.empty l1 x5_1).toList) = true := bne_iff_ne.mpr c7
                obtain rfl := Option.some.inj H
                have p186 : 0 ≤ (x5_1 : Int) := of_decide_eq_true (by first | (with_reducible assumption) | assumption)
                have q186 : x5_1 < (l0.length : Int) := of_decide_eq_true (by first | (with_reducible assumption) | assumption)
                obtain ⟨ad186, e186, hx186_0⟩ := Kd.at_string HR0.out x5_1 p186 q186
                cases e186
                replace p186 := eq_true p186
                replace q186 := eq_true q186
                have p187 : 0 ≤ (x5_1 : Int) := of_decide_eq_true (by first | (with_reducible assumption) | assumption)
                have q187 : x5_1 < (l1.length : Int) := of_decide_eq_true (by first | (with_reducible assumption) | assumption)
                obtain ⟨ad187, e187, hx187_0⟩ := Kd.at_string HR1.out x5_1 p187 q187
                cases e187
                replace p187 := eq_true p187
                replace q187 := eq_true q187
                go_wp2
                repeat (go_quiet (fail); try go_wp2)
                go_ret
                exact ⟨by first | rfl | (simp; done) | (simp [*]; done), by repeat (first | exact Drawn0.refl _ | apply Drawn0.step)⟩
            · rw [if_neg c6] at H
              exact absurd H (by simp)
          · rw [if_neg c5] at H
            exact absurd H (by simp)
        · rw [if_neg c4] at H
          have c4b0 : decide (x5_1 < (l0.length : Int)) = false := decide_eq_false c4
          clear c4
          obtain rfl := Option.some.inj H
          go_wp2
          repeat (go_quiet (fail); try go_wp2)
          go_ret
          exact ⟨by first | rfl | (simp; done) | (simp [*]; done), by repeat (first | exact Drawn0.refl _ | apply Drawn0.step)⟩
  · rw [if_neg c3] at H
    have c3b0 : ((l0.length : Int) == (l1.length : Int)) = false := beq_eq_false_iff_ne.mpr c3
    have c3b1 : ((l0.length : Int) != (l1.length : Int)) = true := bne_iff_ne.mpr c3
    have c3b2 : (l0.length == l1.length) = false := by first | simpa using c3 | (simp at c3 ⊢; omega)
    obtain rfl := Option.some.inj H
    go_enter Tryz.func19, Tryz.ntmps19
    go_wp2
    repeat (go_quiet (fail); try go_wp2)
    go_ret
    exact ⟨by first | rfl | (simp; done) | (simp [*]; done), by repeat (first | exact Drawn0.refl _ | apply Drawn0.step)⟩
def truth_members.l0 : Nat → Int → List Int → Int → Option (List Int)
  | 0, _, _, _ => none
  | k + 1, x0, x3, x4 => if 0 ≤ x4 then (if (shr .i64 x0 x4) > 0 then (if (Go.bits .and .i64 (shr .i64 x0 x4) 1) = 1 then (if x3.length < 17592186044416 then (truth_members.l0 k x0 (x3 ++ [x4]) (wrap64 (x4 + 1))) else (none)) else (truth_members.l0 k x0 x3 (wrap64 (x4 + 1)))) else (some x3)) else (none)
def truth_members.f (k : Nat) (a0 : Int) : Option (List Int) := truth_members.l0 k a0 ([] : List Int) 0
theorem truth_members.mono_l : ∀ k, (∀ y0 y1 y2, LeO (truth_members.l0 k y0 y1 y2) (truth_members.l0 (k + 1) y0 y1 y2))
  | 0 => fun _ _ _ r h => by simp [truth_members.l0] at h
  | k + 1 => by
    have ih0 := truth_members.mono_l k
    · intro y0 y1 y2
      unfold truth_members.l0
      repeat' first
      | (with_reducible exact ih0 _ _ _)
      | (with_reducible exact LeO.refl _)
      | (with_reducible exact LeO.none _)
      | (with_reducible refine LeO.ite ?_ ?_)
      | (with_reducible refine LeO.bind ?_ (fun _ => ?_))
      | exact ih0 _ _ _
      | exact LeO.none _
      | refine LeO.ite ?_ ?_
      | refine LeO.bind ?_ (fun _ => ?_)
theorem truth_members.mono : ∀ a0 k, LeO (truth_members.f k a0) (truth_members.f (k + 1) a0) := by
  intro a0 k
  have ih0 := truth_members.mono_l k
  unfold truth_members.f
  repeat' first
      | (with_reducible exact ih0 _ _ _)
      | (with_reducible exact LeO.refl _)
      | (with_reducible exact LeO.none _)
      | (with_reducible refine LeO.ite ?_ ?_)
      | (with_reducible refine LeO.bind ?_ (fun _ => ?_))
      | exact ih0 _ _ _
      | exact LeO.none _
      | refine LeO.ite ?_ ?_
      | refine LeO.bind ?_ (fun _ => ?_)
set_option maxHeartbeats 8000000 in
set_option maxRecDepth 100000 in
theorem truth_members.calls (k : Nat) (a0 : Int) (r : List Int) (w : World) (h : truth_members.f k a0 = some r) :
    Calls Tryz.prog 43 #[.int .i64 a0] w fun e w' => ∃ v0_ : Value, e = .returned (v0_) ∧ Kd.R (Kd.int .i64) 3 w' w.heap.size (fun _ => True) v0_ r ∧ Below w.heap.size w w' := by
  have HB := Aside0.mk (Below.refl w.heap.size w)
  have H : (truth_members.l0 k a0 ([] : List Int) 0) = some r := h
  clear h
  have H' := Aside0.mk H
  clear H
  go_enter Tryz.func43, Tryz.ntmps43
  go_wp2
  go_loopg [3, 4] k (fun kq v3 v4 w' => ∃ (x3_1 : List Int) (x4_1 : Int), v4 = .int .i64 x4_1 ∧ Aside0 (truth_members.l0 kq a0 x3_1 x4_1 = some r) ∧ Aside0 (kq ≤ k) ∧ Aside0 (Kd.R (Kd.int .i64) 3 w' w.heap.size (fun _ => True) v3 x3_1) ∧ Aside0 (Below w.heap.size w w'))
  case atStart => exact ⟨(([] : List Int)), (0), (by first | rfl | (simp; done) | (simp [*]; done)), H', ⟨Nat.le_refl _⟩, ⟨by first | exact Kd.R_nil _ _ _ _ _ | exact Kd.N_nil _ _ _ _ _ | exact Kd.V_nil _ _ _ _ _ | exact Kd.Q_nil _ _ _ _ _ | exact Kd.S_nil _ _ _ _ _⟩, ⟨by repeat (first | (with_reducible first | exact HB.out | apply below_alloc | apply pw_below_drewN | apply below_drew1) | exact HB.out)⟩⟩
  case round =>
    clear H'
    obtain ⟨x3_1, x4_1, rfl, HA, HK1, HO_3, HB⟩ := hrel
    cases gk with
    | zero => exact absurd HA.out (by simp [truth_members.l0])
    | succ k1 =>
      have H := HA.out
      clear HA
      simp only [truth_members.l0] at H
      by_cases c2 : 0 ≤ x4_1
      · rw [if_pos c2] at H
        have c2b0 := eq_true c2
        have c2b1 : decide (0 ≤ x4_1) = true := decide_eq_true c2
        clear c2
        obtain ⟨ji3, hji3⟩ : ∃ j_ : Int, (shr .i64 a0 x4_1) = j_ := ⟨_, rfl⟩
        replace H : (if (ji3) > 0 then (if (Go.bits .and .i64 (ji3) 1) = 1 then (if x3_1.length < 17592186044416 then (truth_members.l0 k1 a0 (x3_1 ++ [x4_1]) (wrap64 (x4_1 + 1))) else (none)) else (truth_members.l0 k1 a0 x3_1 (wrap64 (x4_1 + 1)))) else (some x3_1)) = some r := by first | (rw [hji3] at H; exact H) | (simp only [hji3] at H ⊢; exact H)
        have hji3_ : (a0 / 2 ^ min x4_1.toNat 64) = ji3 := hji3
        have hji3z : x4_1 ≤ 64 → (a0 / 2 ^ x4_1.toNat) = ji3 := shr_small hji3
        by_cases c4 : (ji3) > 0
        · rw [if_pos c4] at H
          have c4b0 : decide (0 < (ji3)) = true := decide_eq_true c4
          clear c4
          have c5b0 := eq_true (of_decide_eq_true (by first | (with_reducible assumption) | assumption) : 0 ≤ x4_1)
          by_cases c7 : (Go.bits .and .i64 (ji3) 1) = 1
          · rw [if_pos c7] at H
            have c7b0 : ((Go.bits .and .i64 (ji3) 1) == 1) = true := beq_iff_eq.mpr c7
            have c7b1 : ((Go.bits .and .i64 (ji3) 1) != 1) = false := bne_eq_false_iff_eq.mpr c7
            clear c7
            by_cases c8 : x3_1.length < 17592186044416
            · rw [if_pos c8] at H
              have LMc8 := Aside0.mk c8
              clear c8
              obtain ⟨y107, hy107⟩ : ∃ y_ : List Int, y_ = (x3_1 ++ [x4_1]) := ⟨_, rfl⟩
              replace H : (truth_members.l0 k1 a0 y107 (wrap64 (x4_1 + 1))) = some r := by first | (rw [hy107]; with_reducible exact H) | (have H2_ := (Option.bind_some _ _).symm.trans H; rw [hy107]; with_reducible exact H2_) | (have H2_ := (Option.bind_some _ _).symm.trans H; with_reducible exact H2_) | with_reducible exact H | (rw [hy107]; exact H) | exact H
              have Ny107 := Aside0.mk hy107
              clear hy107
              have H' := Aside0.mk H
              clear H
              go_wp2_with (first | ((with_reducible refine gate_builtin (b := .append) (xs := #[.tmp 16, .tmp 18]) rfl ?_); at_builtin; refine Kd.R_append (Kd.int .i64) (w0 := w) w.heap.size rfl (.tmp 16) (.tmp 18) 39 3 (.int .i64 0) 8 rfl Tryz.underlying39 info3 rfl (by decide) (by omega) u3 x3_1 x4_1 [.int .i64 x4_1] (fun _ => True) (fun _ => False) rfl rfl ?aP (fun _ hk => hk.elim) ?aF ?aO ?aB ?aS ?aL ?_; (case aP => exact rfl); (case aB => exact (by repeat (first | (with_reducible first | exact HB.out | apply below_alloc | apply pw_below_drewN | apply below_drew1) | exact HB.out))); (case aF => exact (fun _ _ => trivial)); (case aO => exact (by (with_reducible repeat (first | apply Kd.R_alloc | apply Kd.R_drewN | apply Kd.R_drew)); exact HO_3.out)); (case aS => exact (below_size (by repeat (first | (with_reducible first | exact HB.out | apply below_alloc | apply pw_below_drewN | apply below_drew1) | exact HB.out)))); (case aL => have := LMc8.out; omega); intro v108 w9 ho hb hg hat; rw [← Ny107.out] at ho; have n0_ := Aside0.mk (hb); have n1_ := Aside0.mk (ho); clear HB; clear HO_3; have HB := n0_; have HO109 := n1_; clear n0_ n1_; clear ho hb hg hat))
              go_roundg k1
              case measure => have := HK1.out; omega
              case rel => exact ⟨(y107), (wrap64 (x4_1 + 1)), (by first | rfl | (simp; done) | (simp [*]; done)), H', ⟨by have := HK1.out; omega⟩, ⟨by (with_reducible repeat (first | apply Kd.R_alloc | apply Kd.R_drewN | apply Kd.R_drew)); exact HO109.out⟩, ⟨by repeat (first | (with_reducible first | exact HB.out | apply below_alloc | apply pw_below_drewN | apply below_drew1) | exact HB.out)⟩⟩
            · rw [if_neg c8] at H
              exact absurd H (by simp)
          · rw [if_neg c7] at H
            have c7b0 : ((Go.bits .and .i64 (ji3) 1) == 1) = false := beq_eq_false_iff_ne.mpr c7
            have c7b1 : ((Go.bits .and .i64 (ji3) 1) != 1) = true := bne_iff_ne.mpr c7
            have H' := Aside0.mk H
            clear H
            go_wp2
            go_roundg k1
            case measure => have := HK1.out; omega
            case rel => exact ⟨(x3_1), (wrap64 (x4_1 + 1)), (by first | rfl | (simp; done) | (simp [*]; done)), H', ⟨by have := HK1.out; omega⟩, ⟨by (with_reducible repeat (first | apply Kd.R_alloc | apply Kd.R_drewN | apply Kd.R_drew)); exact HO_3.out⟩, ⟨by repeat (first | (with_reducible first | exact HB.out | apply below_alloc | apply pw_below_drewN | apply below_drew1) | exact HB.out)⟩⟩
        · rw [if_neg c4] at H
          have c4b0 : decide (0 < (ji3)) = false := decide_eq_false c4
          clear c4
          obtain rfl := Option.some.inj H
          go_wp2
          go_ret
          exact ⟨_, by first | rfl | (simp [errW_none, errW_some] <;> rfl) | (simp only [← hji3]; first | rfl | (simp [errW_none, errW_some] <;> rfl)) | (simp [*, errW_none, errW_some] <;> rfl), by (with_reducible repeat (first | apply Kd.R_alloc | apply Kd.R_drewN | apply Kd.R_drew)); exact HO_3.out, by repeat (first | (with_reducible first | exact HB.out | apply below_alloc | apply pw_below_drewN | apply below_drew1) | exact HB.out)⟩
      · rw [if_neg c2] at H
        exact absurd H (by simp)
def truth_lists.l0 : Nat → List (List Int) → List Int → Int → Int → Option ((List (List Int)))
  | 0, _, _, _, _ => none
  | k + 1, x3, x6, x7, x8 => if x8 < x7 then (if 0 ≤ x8 then (if x8 < (x6.length : Int) then ((truth_members.f k (rd x6 x8)).bind fun t111 => (if x3.length < 5864062014805 then (truth_lists.l0 k (x3 ++ [t111]) x6 x7 (wrap64 (x8 + 1))) else (none))) else (none)) else (none)) else (some x3)
def truth_lists.f (k : Nat) (l0 : List Int) : Option ((List (List Int))) := truth_lists.l0 k ([] : List (List Int)) l0 (l0.length : Int) 0
theorem truth_lists.mono_l : ∀ k, (∀ y0 y1 y2 y3, LeO (truth_lists.l0 k y0 y1 y2 y3) (truth_lists.l0 (k + 1) y0 y1 y2 y3))
  | 0 => fun _ _ _ _ r h => by simp [truth_lists.l0] at h
  | k + 1 => by
    have ih0 := truth_lists.mono_l k
    · intro y0 y1 y2 y3
      unfold truth_lists.l0
      repeat' first
      | (with_reducible exact ih0 _ _ _ _)
      | (with_reducible exact truth_members.mono _ _)
      | (with_reducible exact LeO.refl _)
      | (with_reducible exact LeO.none _)
      | (with_reducible refine LeO.ite ?_ ?_)
      | (with_reducible refine LeO.bind ?_ (fun _ => ?_))
      | exact ih0 _ _ _ _
      | exact truth_members.mono _ _
      | exact LeO.none _
      | refine LeO.ite ?_ ?_
      | refine LeO.bind ?_ (fun _ => ?_)
theorem truth_lists.mono : ∀ a0 k, LeO (truth_lists.f k a0) (truth_lists.f (k + 1) a0) := by
  intro a0 k
  have ih0 := truth_lists.mono_l k
  unfold truth_lists.f
  repeat' first
      | (with_reducible exact ih0 _ _ _ _)
      | (with_reducible exact truth_members.mono _ _)
      | (with_reducible exact LeO.refl _)
      | (with_reducible exact LeO.none _)
      | (with_reducible refine LeO.ite ?_ ?_)
      | (with_reducible refine LeO.bind ?_ (fun _ => ?_))
      | exact ih0 _ _ _ _
      | exact truth_members.mono _ _
      | exact LeO.none _
      | refine LeO.ite ?_ ?_
      | refine LeO.bind ?_ (fun _ => ?_)
set_option maxHeartbeats 8000000 in
set_option maxRecDepth 100000 in
theorem truth_lists.calls (k : Nat) (A0 : Option Addr) (c0 : Nat) (l0 : List Int) (r : List (List Int)) (w : World) (hr0 : Kd.C (Kd.int .i64) w A0 l0.length l0) (hc0 : l0.length ≤ c0) (h : truth_lists.f k l0 = some r) :
    Calls Tryz.prog 49 #[.slice A0 l0.length c0] w fun e w' => ∃ v0_ : Value, e = .returned (v0_) ∧ Kd.S (Kd.slice 3 (Kd.int .i64)) 39 w' w.heap.size (fun _ => True) v0_ r ∧ Below w.heap.size w w' := by
  have HR0 := Aside0.mk hr0
  have HC0 := Aside0.mk hc0
  clear hr0 hc0
  have HB := Aside0.mk (Below.refl w.heap.size w)
  have H : (truth_lists.l0 k ([] : List (List Int)) l0 (l0.length : Int) 0) = some r := h
  clear h
  have H' := Aside0.mk H
  clear H
  go_enter Tryz.func49, Tryz.ntmps49
  go_wp2
  go_loopg [3, 8] k (fun kq v3 v8 w' => ∃ (x3_1 : List (List Int)) (x8_1 : Int), v8 = .int .i64 x8_1 ∧ Aside0 (truth_lists.l0 kq x3_1 l0 (l0.length : Int) x8_1 = some r) ∧ Aside0 (kq ≤ k) ∧ Aside0 (Kd.S (Kd.slice 3 (Kd.int .i64)) 39 w' w.heap.size (fun _ => True) v3 x3_1) ∧ Aside0 (Below w.heap.size w w'))
  case atStart => exact ⟨(([] : List (List Int))), (0), (by first | rfl | (simp; done) | (simp [*]; done)), H', ⟨Nat.le_refl _⟩, ⟨by first | exact Kd.S_nil _ _ _ _ _ | exact Kd.N_nil _ _ _ _ _ | exact Kd.V_nil _ _ _ _ _ | exact Kd.Q_nil _ _ _ _ _ | exact Kd.R_nil _ _ _ _ _⟩, ⟨by repeat (first | (with_reducible first | exact HB.out | apply below_alloc | apply pw_below_drewN | apply below_drew1) | exact HB.out)⟩⟩
  case round =>
    clear H'
    obtain ⟨x3_1, x8_1, rfl, HA, HK1, HO_3, HB⟩ := hrel
    cases gk with
    | zero => exact absurd HA.out (by simp [truth_lists.l0])
    | succ k1 =>
      have H := HA.out
      clear HA
      simp only [truth_lists.l0] at H
      by_cases c2 : x8_1 < (l0.length : Int)
      · rw [if_pos c2] at H
        have c2b0 : decide (x8_1 < (l0.length : Int)) = true := decide_eq_true c2
        clear c2
        by_cases c3 : 0 ≤ x8_1
        · rw [if_pos c3] at H
          have c3b0 : decide (0 ≤ x8_1) = true := decide_eq_true c3
          clear c3
          by_cases c4 : x8_1 < (l0.length : Int)
          · rw [if_pos c4] at H
            have c4b0 : decide (x8_1 < (l0.length : Int)) = true := decide_eq_true c4
            clear c4
            replace H := Option.bind_eq_some_iff.mp H
            obtain ⟨t111, A50, H⟩ := H
            replace H : (if x3_1.length < 5864062014805 then (truth_lists.l0 k1 (x3_1 ++ [t111]) l0 (l0.length : Int) (wrap64 (x8_1 + 1))) else (none)) = some r := H
            have A5 := Aside0.mk A50
            clear A50
            by_cases c6 : x3_1.length < 5864062014805
            · rw [if_pos c6] at H
              have LMc6 := Aside0.mk c6
              clear c6
              obtain ⟨y114, hy114⟩ : ∃ y_ : List (List Int), y_ = (x3_1 ++ [t111]) := ⟨_, rfl⟩
              replace H : (truth_lists.l0 k1 y114 l0 (l0.length : Int) (wrap64 (x8_1 + 1))) = some r := by first | (rw [hy114]; with_reducible exact H) | (have H2_ := (Option.bind_some _ _).symm.trans H; rw [hy114]; with_reducible exact H2_) | (have H2_ := (Option.bind_some _ _).symm.trans H; with_reducible exact H2_) | with_reducible exact H | (rw [hy114]; exact H) | exact H
              have Ny114 := Aside0.mk hy114
              clear hy114
              have H' := Aside0.mk H
              clear H
              have p110 : 0 ≤ (x8_1 : Int) := of_decide_eq_true (by first | (with_reducible assumption) | assumption)
              have q110 : x8_1 < (l0.length : Int) := of_decide_eq_true (by first | (with_reducible assumption) | assumption)
              obtain ⟨ad110, e110, hx110_0⟩ := Kd.at_int HR0.out x8_1 p110 q110
              cases e110
              replace hx110_0 := (HB.out.cell (World.block_lt_of_cell? w _ hx110_0)).trans hx110_0
              replace p110 := eq_true p110
              replace q110 := eq_true q110
              go_wp2_with (first | ((with_reducible refine gate_callee (f := 43) rfl ?_); refine goesL_ (some 14) rfl rfl Tryz.func43 (by kernel_rfl) rfl #[.int .i64 (rd l0 x8_1)] rfl (by (try simp only [List.map_toArray, List.map_cons, List.map_nil]); first | done | rfl | (simp only [List.length_drop, List.length_take]; rfl)) ?_; (with_reducible refine (truth_members.calls k1 (rd l0 x8_1) t111 _ A5.out).mono ?_); rintro e w7 ⟨v112, rfl, ho0, hb⟩; refine ⟨_, rfl, ?_⟩; have n0_ := Aside0.mk (Kd.S_elder' (by (with_reducible repeat (first | apply Kd.S_alloc | apply Kd.S_drewN | apply Kd.S_drew)); exact HO_3.out) (Kd.R_base ho0) hb); have n1_ := Aside0.mk (Kd.R_lower ho0 (below_size (by repeat (first | (with_reducible first | exact HB.out | apply below_alloc | apply pw_below_drewN | apply below_drew1) | exact HB.out)))); have n2_ := Aside0.mk (below_step (by repeat (first | (with_reducible first | exact HB.out | apply below_alloc | apply pw_below_drewN | apply below_drew1) | exact HB.out)) hb); clear HO_3; clear HB; have HO_3 := n0_; have HO113 := n1_; have HB := n2_; clear n0_ n1_ n2_; (try clear hb); (try clear hb2); (try clear hk); (try clear hi); (try clear ho0); obtain ⟨Ao9, co9, eo9⟩ := Kd.R_slice HO113.out; subst eo9) | ((with_reducible refine gate_builtin (b := .append) (xs := #[.tmp 12, .tmp 15]) rfl ?_); at_builtin; refine Kd.S_append (Kd.slice 3 (Kd.int .i64)) (w0 := w) w.heap.size rfl (.tmp 12) (.tmp 15) 70 39 (.slice none 0 0) 24 rfl Tryz.underlying70 info39 rfl (by decide) (by omega) u3 x3_1 t111 [.slice Ao9 t111.length co9] (fun _ => True) (fun k_ => some k_ = (.slice Ao9 t111.length co9 : Value).ownBlock) rfl rfl ?aP (fun k_ hk_ => ((Kd.R_mono (ok' := fun k_ => ((fun _ => True)) k_ ∧ some k_ ≠ (u3 : Value).ownBlock) (Kd.R_apart' (HO113.out) (Kd.S_typed HO_3.out) (by decide)) (fun k_ hk => ⟨trivial, hk.2⟩))).1 k_ hk_.symm) ?aF ?aO ?aB ?aS ?aL ?_; (case aP => exact Kd.M_row (Kd.R_mono (Kd.R_tight rfl (Kd.R_mono (ok' := fun k_ => ((fun _ => True)) k_ ∧ some k_ ≠ (u3 : Value).ownBlock) (Kd.R_apart' (HO113.out) (Kd.S_typed HO_3.out) (by decide)) (fun k_ hk => ⟨trivial, hk.2⟩))) (fun _ h_ => h_))); (case aB => exact (by repeat (first | (with_reducible first | exact HB.out | apply below_alloc | apply pw_below_drewN | apply below_drew1) | exact HB.out))); (case aF => exact (fun _ _ => trivial)); (case aO => exact (by (with_reducible repeat (first | apply Kd.S_alloc | apply Kd.S_drewN | apply Kd.S_drew)); exact Kd.S_mono HO_3.out (fun k_ hk => ⟨trivial, fun e_ => hk.2 e_⟩))); (case aS => exact (below_size (by repeat (first | (with_reducible first | exact HB.out | apply below_alloc | apply pw_below_drewN | apply below_drew1) | exact HB.out)))); (case aL => have := LMc6.out; omega); intro v115 w8 ho hb hg hat; rw [← Ny114.out] at ho; have n0_ := Aside0.mk (hb); have n1_ := Aside0.mk (ho); clear HB; clear HO_3; clear HO113; have HB := n0_; have HO116 := n1_; clear n0_ n1_; clear ho hb hg hat))
              go_roundg k1
              case measure => have := HK1.out; omega
              case rel => exact ⟨(y114), (wrap64 (x8_1 + 1)), (by first | rfl | (simp; done) | (simp [*]; done)), H', ⟨by have := HK1.out; omega⟩, ⟨by (with_reducible repeat (first | apply Kd.S_alloc | apply Kd.S_drewN | apply Kd.S_drew)); exact HO116.out⟩, ⟨by repeat (first | (with_reducible first | exact HB.out | apply below_alloc | apply pw_below_drewN | apply below_drew1) | exact HB.out)⟩⟩
            · rw [if_neg c6] at H
              exact absurd H (by simp)
          · rw [if_neg c4] at H
            exact absurd H (by simp)
        · rw [if_neg c3] at H
          exact absurd H (by simp)
      · rw [if_neg c2] at H
        have c2b0 : decide (x8_1 < (l0.length : Int)) = false := decide_eq_false c2
        clear c2
        obtain rfl := Option.some.inj H
        go_wp2
        go_ret
        exact ⟨_, by first | rfl | (simp [errW_none, errW_some] <;> rfl) | (simp [*, errW_none, errW_some] <;> rfl), by (with_reducible repeat (first | apply Kd.S_alloc | apply Kd.S_drewN | apply Kd.S_drew)); exact HO_3.out, by repeat (first | (with_reducible first | exact HB.out | apply below_alloc | apply pw_below_drewN | apply below_drew1) | exact HB.out)⟩
def pomadelaw01_none.l0 : Nat → Int → ByteArray → Int → Option (ByteArray)
  | 0, _, _, _ => none
  | k + 1, x0, x3, x4 => if x4 < x0 then (if x4 < 20 then (if x3.size + 1 ≤ 9223372036854775807 then (pomadelaw01_none.l0 k x0 (x3 ++ (⟨#[63]⟩ : ByteArray)) (wrap64 (x4 + 1))) else (none)) else (some x3)) else (some x3)
def pomadelaw01_none.f (k : Nat) (a0 : Int) : Option (ByteArray) := pomadelaw01_none.l0 k a0 (⟨#[]⟩ : ByteArray) 0
theorem pomadelaw01_none.mono_l : ∀ k, (∀ y0 y1 y2, LeO (pomadelaw01_none.l0 k y0 y1 y2) (pomadelaw01_none.l0 (k + 1) y0 y1 y2))
  | 0 => fun _ _ _ r h => by simp [pomadelaw01_none.l0] at h
  | k + 1 => by
    have ih0 := pomadelaw01_none.mono_l k
    · intro y0 y1 y2
      unfold pomadelaw01_none.l0
      repeat' first
      | (with_reducible exact ih0 _ _ _)
      | (with_reducible exact LeO.refl _)
      | (with_reducible exact LeO.none _)
      | (with_reducible refine LeO.ite ?_ ?_)
      | (with_reducible refine LeO.bind ?_ (fun _ => ?_))
      | exact ih0 _ _ _
      | exact LeO.none _
      | refine LeO.ite ?_ ?_
      | refine LeO.bind ?_ (fun _ => ?_)
theorem pomadelaw01_none.mono : ∀ a0 k, LeO (pomadelaw01_none.f k a0) (pomadelaw01_none.f (k + 1) a0) := by
  intro a0 k
  have ih0 := pomadelaw01_none.mono_l k
  unfold pomadelaw01_none.f
  repeat' first
      | (with_reducible exact ih0 _ _ _)
      | (with_reducible exact LeO.refl _)
      | (with_reducible exact LeO.none _)
      | (with_reducible refine LeO.ite ?_ ?_)
      | (with_reducible refine LeO.bind ?_ (fun _ => ?_))
      | exact ih0 _ _ _
      | exact LeO.none _
      | refine LeO.ite ?_ ?_
      | refine LeO.bind ?_ (fun _ => ?_)
set_option maxHeartbeats 8000000 in
set_option maxRecDepth 100000 in
theorem pomadelaw01_none.calls (k : Nat) (a0 : Int) (r : ByteArray) (w : World) (h : pomadelaw01_none.f k a0 = some r) :
    Calls Tryz.prog 10 #[.int .i64 a0] w fun e w' => e = .returned (.string r) ∧ Drawn0 w w' := by
  have H : (pomadelaw01_none.l0 k a0 (⟨#[]⟩ : ByteArray) 0) = some r := h
  clear h
  have H' := Aside0.mk H
  clear H
  go_enter Tryz.func10, Tryz.ntmps10
  go_wp2
  go_loopg [3, 4] k (fun kq v3 v4 w' => ∃ (x3_1 : ByteArray) (x4_1 : Int), v3 = .string x3_1 ∧ v4 = .int .i64 x4_1 ∧ Aside0 (pomadelaw01_none.l0 kq a0 x3_1 x4_1 = some r) ∧ Aside0 (kq ≤ k) ∧ Drawn0 w w')
  case atStart => exact ⟨((⟨#[]⟩ : ByteArray)), (0), (by first | rfl | (simp; done) | (simp [*]; done)), (by first | rfl | (simp; done) | (simp [*]; done)), H', ⟨Nat.le_refl _⟩, by repeat (first | exact Drawn0.refl _ | apply Drawn0.step)⟩
  case round =>
    clear H'
    try clear c1
    obtain ⟨x3_1, x4_1, rfl, rfl, HA, HK1, ⟨m1, rfl⟩⟩ := hrel
    cases gk with
    | zero => exact absurd HA.out (by simp [pomadelaw01_none.l0])
    | succ k1 =>
      have H := HA.out
      clear HA
      simp only [pomadelaw01_none.l0] at H
      by_cases c2 : x4_1 < a0
      · rw [if_pos c2] at H
        have c2b0 : decide (x4_1 < a0) = true := decide_eq_true c2
        clear c2
        by_cases c3 : x4_1 < 20
        · rw [if_pos c3] at H
          have c3b0 : decide (x4_1 < 20) = true := decide_eq_true c3
          clear c3
          by_cases c4 : x3_1.size + 1 ≤ 9223372036854775807
          · rw [if_pos c4] at H
            have c4b0 := eq_true c4
            have c4b1 : decide (x3_1.size + 1 ≤ 9223372036854775807) = true := decide_eq_true c4
            try have c4b2 : (9223372036854775807 < x3_1.size + 1) = False := eq_false (Nat.not_lt.2 c4)
            have H' := Aside0.mk H
            clear H
            go_wp2
            go_roundg k1
            case measure => have := HK1.out; omega
            case rel => exact ⟨(x3_1 ++ (⟨#[63]⟩ : ByteArray)), (wrap64 (x4_1 + 1)), (by first | rfl | (simp; done) | (simp [*]; done)), (by first | rfl | (simp; done) | (simp [*]; done)), H', ⟨by have := HK1.out; omega⟩, by repeat (first | exact Drawn0.refl _ | apply Drawn0.step)⟩
          · rw [if_neg c4] at H
            exact absurd H (by simp)
        · rw [if_neg c3] at H
          have c3b0 : decide (x4_1 < 20) = false := decide_eq_false c3
          clear c3
          obtain rfl := Option.some.inj H
          go_wp2
          go_ret
          exact ⟨by first | rfl | (simp; done) | (simp [*]; done), by repeat (first | exact Drawn0.refl _ | apply Drawn0.step)⟩
      · rw [if_neg c2] at H
        have c2b0 : decide (x4_1 < a0) = false := decide_eq_false c2
        clear c2
        obtain rfl := Option.some.inj H
        go_wp2
        go_ret
        exact ⟨by first | rfl | (simp; done) | (simp [*]; done), by repeat (first | exact Drawn0.refl _ | apply Drawn0.step)⟩
end Go.Proofs.YtijaefmaceolbaaGreatDoor.Im

namespace Go.Proofs.YtijaefmaceolbaaGreatDoor.Im
open Go.RowKit Go.Proofs.YtijaefmaceolbaaGreatDoorW.PrintWords Go.Proofs.YtijaefmaceolbaaGreatDoorW.PrintLast Go.Proofs.YtijaefmaceolbaaGreatDoorW.PrintMore Go.Proofs.YtijaefmaceolbaaGreatDoor.Tr
set_option linter.unusedVariables false
set_option linter.unusedSimpArgs false
def Gives {α : Type} (f : Nat → Option α) (r : α) : Prop := ∃ k0, ∀ k, k0 ≤ k → f k = some r
theorem Gives.now {α : Type} {g : Nat → Option α} {r : α} (h : ∀ k, g (k + 1) = some r) : Gives g r :=
  ⟨1, fun k hk => by obtain ⟨m, rfl⟩ : ∃ m, k = m + 1 := ⟨k - 1, by omega⟩; exact h m⟩
theorem Gives.all {α : Type} {g : Nat → Option α} {r : α} (h : ∀ k, g k = some r) : Gives g r := ⟨0, fun k _ => h k⟩
theorem Gives.step {α β : Type} {f : Nat → Option α} {r : α} {g : Nat → Option β} {s : β} (h : Gives f r) (hs : ∀ k, f k = some r → g (k + 1) = some s) : Gives g s := by
  obtain ⟨k0, h⟩ := h
  exact ⟨k0 + 1, fun k hk => by obtain ⟨m, rfl⟩ : ∃ m, k = m + 1 := ⟨k - 1, by omega⟩; exact hs m (h m (by omega))⟩
theorem Gives.map {α β : Type} {f : Nat → Option α} {r : α} {g : Nat → Option β} {s : β} (h : Gives f r) (hs : ∀ k, f k = some r → g k = some s) : Gives g s := by
  obtain ⟨k0, h⟩ := h
  exact ⟨k0, fun k hk => hs k (h k hk)⟩
theorem Gives.both {α β : Type} {f : Nat → Option α} {r : α} {g : Nat → Option β} {s : β} (h : Gives f r) (h' : Gives g s) : Gives (fun k => (f k).bind fun x => (g k).map fun y => (x, y)) (r, s) := by
  obtain ⟨k0, h⟩ := h
  obtain ⟨k1, h'⟩ := h'
  exact ⟨k0 + k1, fun k hk => by show (f k).bind _ = _; rw [h k (by omega), h' k (by omega)]; rfl⟩
theorem Gives.step2 {α β γ : Type} {f : Nat → Option α} {r : α} {f' : Nat → Option β} {r' : β} {g : Nat → Option γ} {s : γ} (h : Gives f r) (h' : Gives f' r') (hs : ∀ k, f k = some r → f' k = some r' → g (k + 1) = some s) : Gives g s :=
  Gives.step (h.both h') (fun k hk => by
    cases e1 : f k with
    | none => simp [e1] at hk
    | some x =>
      cases e2 : f' k with
      | none => simp [e1, e2] at hk
      | some y =>
        simp only [e1, e2, Option.bind_some, Option.map_some, Option.some.injEq, Prod.mk.injEq] at hk
        exact hs k (by rw [e1, hk.1]) (by rw [e2, hk.2]))
theorem members_loop (s : Nat) (hs : s < 4096) : ∀ (d i k : Nat) (acc : List Int), 12 - i = d → i ≤ 12 → acc.length ≤ i → d < k → truth_members.l0 k s acc i = some (acc ++ ints (mem12 s i)) := by
  intro d
  induction d with
  | zero =>
    intro i k acc hd hi ha hk
    obtain ⟨k, rfl⟩ : ∃ m, k = m + 1 := ⟨k - 1, by omega⟩
    have hz : s >>> i = 0 := by
      rcases Nat.eq_zero_or_pos (s >>> i) with h | h
      · exact h
      · have := shr12 s i hs (by omega); omega
    simp only [truth_members.l0]
    rw [if_pos (by omega), shr_i64 s i (by omega), hz, if_neg (by simp), mem12_none s i hz]
    simp [ints]
  | succ d ih =>
    intro i k acc hd hi ha hk
    obtain ⟨k, rfl⟩ : ∃ m, k = m + 1 := ⟨k - 1, by omega⟩
    simp only [truth_members.l0]
    rw [if_pos (by omega), shr_i64 s i (by omega)]
    by_cases hz : s >>> i = 0
    · rw [hz, if_neg (by simp), mem12_none s i hz]
      simp [ints]
    · rw [if_pos (show ((s >>> i : Nat) : Int) > 0 by have : 0 < s >>> i := Nat.pos_of_ne_zero hz; exact_mod_cast this), b_bitshr s i (by omega), mem12_step s i (by omega), wr_succ i (by omega)]
      cases hb : s.testBit i
      · rw [if_neg (by simp), if_neg (by simp)]
        exact ih (i + 1) k acc (by omega) (by omega) (by omega) (by omega)
      · rw [if_pos (by simp), if_pos (by omega), if_pos rfl, ih (i + 1) k _ (by omega) (by omega) (by simp; omega) (by omega)]
        simp [ints]
theorem members_f (s : Nat) (hs : s < 4096) : truth_members.f 13 s = some (ints (mem12 s 0)) := by
  have := members_loop s hs 12 0 13 [] (by omega) (by omega) (by simp) (by omega)
  simpa [truth_members.f] using this
def MemPost (l : List Nat) (w : World) (e : Ending) (w' : World) : Prop :=
  ∃ v, e = .returned v ∧ Kd.R (Kd.int .i64) 3 w' w.heap.size (fun _ => True) v (ints l) ∧ Below w.heap.size w w'
theorem members_any (s : Nat) (w : World) (hs : s < 4096) : Calls Tryz.prog 43 #[.int .i64 s] w (MemPost (memL s) w) :=
  (truth_members.calls 13 s _ w (members_f s hs)).mono fun _ _ ⟨v, h1, h2, h3⟩ => ⟨v, h1, h2, h3⟩
theorem ints_snoc' (l : List Nat) (k : Nat) : ints l ++ [(k : Int)] = ints (l ++ [k]) := by simp [ints]
theorem memF_len (p : Nat) : ∀ d i, (memF p d i).length ≤ d
  | 0, _ => Nat.le_refl _
  | d + 1, i => by
    rw [memF]
    have := memF_len p d (i + 1)
    split
    · simp; omega
    · omega
theorem memL_len (s : Nat) : (memL s).length ≤ 12 := memF_len s 12 0
theorem memF_mem (p : Nat) : ∀ d i x, x ∈ memF p d i ↔ i ≤ x ∧ x < i + d ∧ p.testBit x = true
  | 0, i, x => by simp [memF]; omega
  | d + 1, i, x => by
    rw [memF]
    by_cases hb : p.testBit i = true
    · rw [if_pos hb, List.mem_cons, memF_mem p d (i + 1) x]
      constructor
      · rintro (rfl | ⟨h1, h2, h3⟩)
        · exact ⟨Nat.le_refl _, by omega, hb⟩
        · exact ⟨by omega, by omega, h3⟩
      · rintro ⟨h1, h2, h3⟩
        rcases Nat.eq_or_lt_of_le h1 with h | h
        · exact .inl h.symm
        · exact .inr ⟨by omega, by omega, h3⟩
    · rw [if_neg hb, memF_mem p d (i + 1) x]
      constructor
      · rintro ⟨h1, h2, h3⟩
        exact ⟨by omega, by omega, h3⟩
      · rintro ⟨h1, h2, h3⟩
        refine ⟨?_, by omega, h3⟩
        rcases Nat.eq_or_lt_of_le h1 with h | h
        · subst h; exact absurd h3 hb
        · omega
theorem memL_mem {s : Nat} (hs : s < 4096) (x : Nat) : x ∈ memL s ↔ s.testBit x = true := by
  unfold memL mem12
  rw [memF_mem]
  constructor
  · exact fun h => h.2.2
  · intro h
    refine ⟨Nat.zero_le _, ?_, h⟩
    rcases Nat.lt_or_ge x 12 with h' | h'
    · omega
    · rw [Nat.testBit_lt_two_pow (Nat.lt_of_lt_of_le hs (Nat.pow_le_pow_right (by decide) h' : 2 ^ 12 ≤ 2 ^ x))] at h
      cases h
theorem memF_sorted (p : Nat) : ∀ d i, (memF p d i).Pairwise (· < ·)
  | 0, _ => List.Pairwise.nil
  | d + 1, i => by
    rw [memF]
    split
    · exact List.Pairwise.cons (fun x hx => by have := ((memF_mem p d (i + 1) x).1 hx).1; omega) (memF_sorted p d (i + 1))
    · exact memF_sorted p d (i + 1)
theorem memL_nodup (s : Nat) : (memL s).Nodup := (memF_sorted s _ _).imp (fun h => Nat.ne_of_lt h)
end Go.Proofs.YtijaefmaceolbaaGreatDoor.Im

namespace Go.Proofs.YtijaefmaceolbaaGreatDoor.Im
open Go.RowKit Go.Proofs.YtijaefmaceolbaaGreatDoorW.PrintWords Go.Proofs.YtijaefmaceolbaaGreatDoorW.PrintLast Go.Proofs.YtijaefmaceolbaaGreatDoorW.PrintMore Go.Proofs.YtijaefmaceolbaaGreatDoor.Tr
set_option linter.unusedVariables false
set_option linter.unusedSimpArgs false
structure PredC (w : World) (f : FuncId) (cap : Array Value) (dom : Int → Prop) (p : Int → Bool) : Prop where
  enter : ∀ (args : Array Value) (w : World), (callFunc f args).run Tryz.prog w = .ok (.enter f args) w
  calls : ∀ x, dom x → ∀ w', Below w.heap.size w w' → Calls Tryz.prog f (#[.int .i64 x] ++ cap) w' (fun e w'' => e = .returned (.bool (p x)) ∧ Below w'.heap.size w' w'')
theorem PredC.later {w w1 : World} {f : FuncId} {cap : Array Value} {dom : Int → Prop} {p : Int → Bool} (h : PredC w f cap dom p) (hb : Below w.heap.size w w1) : PredC w1 f cap dom p :=
  ⟨h.enter, fun x hx w' hw => h.calls x hx w' (below_then hb hb.size hw)⟩
def idxP (p : Int → Bool) (l : List Int) : Int := if l.any p = true then ((l.findIdx p : Nat) : Int) else -1
theorem findIdx_at {p : Int → Bool} {l : List Int} {k : Nat} (h : k < l.length) (h1 : ∀ j, j < k → p (rd l (j : Int)) = false) (h2 : p (rd l (k : Int)) = true) : l.findIdx p = k ∧ l.any p = true := by
  constructor
  · rw [List.findIdx_eq h]
    refine ⟨by simpa [rd, h] using h2, fun j hj => ?_⟩
    have := h1 j hj
    have hj' : j < l.length := by omega
    simpa [rd, hj'] using this
  · rw [List.any_eq_true]
    exact ⟨l[k], List.getElem_mem h, by simpa [rd, h] using h2⟩
def IdxPost (r : Int) (w : World) (e : Ending) (w' : World) : Prop := e = .returned (.int .i64 r) ∧ Below w.heap.size w w'
set_option maxHeartbeats 800000 in
set_option maxRecDepth 100000 in
theorem index_any (w : World) (f : FuncId) (cap : Array Value) (dom : Int → Prop) (p : Int → Bool) (P : PredC w f cap dom p) (A : Option Addr) (c : Nat) (l : List Int) (hl : ∀ x ∈ l, dom x) (hC : Kd.C (Kd.int .i64) w A l.length l) :
    Calls Tryz.prog 71 #[.slice A l.length c, .func (.func f) #[] cap] w (IdxPost (idxP p l) w) := by
  have E := P.enter
  have HP := Aside0.mk P.calls
  have HC := Aside0.mk hC
  have HL := Aside0.mk hl
  have HB0 := Aside0.mk (Below.refl w.heap.size w)
  have hmax : (l.length : Int) ≤ 9223372036854775807 := by have := Kd.C_max hC; omega
  clear P hC hl
  go_enter Tryz.func71, Tryz.ntmps71
  go_wp2_with fail
  go_loopw [8] (fun v wr => ∃ k : Nat, k ≤ l.length ∧ v = .int .i64 (k : Int) ∧ Aside0 (∀ j, j < k → p (rd l (j : Int)) = false) ∧ Aside0 (Below w.heap.size w wr)) (fun v _ => l.length - (intOf v).toNat)
  case atStart => exact ⟨0, by omega, rfl, ⟨fun j hj => absurd hj (by omega)⟩, HB0⟩
  case round =>
    clear HB0
    obtain ⟨k, hk, rfl, HN, HB⟩ := hrel
    have k0 : (0 : Int) ≤ (k : Int) := by omega
    by_cases hkn : k < l.length
    · have hkn' : (k : Int) < (l.length : Int) := by omega
      obtain ⟨ad, rfl, hcell⟩ := Kd.at_int (Kd.C_below HC.out HB.out) (k : Int) k0 hkn'
      rw [Int.toNat_natCast] at hcell
      have hdom : dom (rd l (k : Int)) := by
        apply HL.out
        have : rd l (k : Int) = l[k] := by simp [rd, hkn]
        rw [this]; exact List.getElem_mem hkn
      have HC1 := Aside0.mk (HP.out _ hdom _ HB.out)
      have HK := Aside0.mk hkn
      clear hdom
      cases hp : p (rd l (k : Int))
      · rw [hp] at HC1
        have HN2 := Aside0.mk (show ∀ j, j < k + 1 → p (rd l (j : Int)) = false from fun j hj => by
          rcases Nat.lt_or_ge j k with h | h
          · exact HN.out j h
          · have : j = k := by omega
            subst this; exact hp)
        clear hp
        go_wp2_with fail
        refine HC1.out.mono ?_
        rintro e w2 ⟨rfl, hb2⟩
        have HB2 := Aside0.mk (below_then HB.out HB.out.size hb2)
        clear hb2
        go_wp2_with fail
        go_roundw
        case rel => exact ⟨k + 1, by omega, by go_num, HN2, HB2⟩
        case measure => simp [intOf]; omega
      · rw [hp] at HC1
        have hf := findIdx_at hkn HN.out hp
        have HR := Aside0.mk (show idxP p l = (k : Int) by unfold idxP; rw [if_pos hf.2, hf.1])
        clear hp hf
        go_wp2_with fail
        refine HC1.out.mono ?_
        rintro e w2 ⟨rfl, hb2⟩
        have HB2 := Aside0.mk (below_then HB.out HB.out.size hb2)
        clear hb2
        go_wp2_with fail
        go_ret
        exact ⟨by rw [HR.out]; rfl, HB2.out⟩
    · have hkl : k = l.length := by omega
      have HR := Aside0.mk (show idxP p l = -1 by
        unfold idxP
        rw [if_neg]
        intro h
        obtain ⟨x, hx, hp⟩ := List.any_eq_true.1 h
        obtain ⟨j, hj, rfl⟩ := List.getElem_of_mem hx
        have := HN.out j (by omega)
        rw [show rd l (j : Int) = l[j] by simp [rd, hj], hp] at this
        cases this)
      subst hkl
      go_wp2_with fail
      go_ret
      exact ⟨by rw [HR.out]; rfl, HB.out⟩
def BoolPost (r : Bool) (w : World) (e : Ending) (w' : World) : Prop := e = .returned (.bool r) ∧ Below w.heap.size w w'
theorem contains_any (w : World) (f : FuncId) (cap : Array Value) (dom : Int → Prop) (p : Int → Bool) (P : PredC w f cap dom p) (A : Option Addr) (c : Nat) (l : List Int) (hl : ∀ x ∈ l, dom x) (hC : Kd.C (Kd.int .i64) w A l.length l) :
    Calls Tryz.prog 42 #[.slice A l.length c, .func (.func f) #[] cap] w (BoolPost (l.any p) w) := by
  have HI := Aside0.mk (index_any w f cap dom p P A c l hl hC)
  clear hC hl P
  cases ha : l.any p
  · have hr : idxP p l = -1 := by unfold idxP; rw [if_neg (by rw [ha]; simp)]
    rw [hr] at HI
    clear hr ha
    go_enter Tryz.func42, Tryz.ntmps42
    go_wp2_with (go_at_call 71; refine HI.out.mono ?_; rintro e w2 ⟨rfl, hb2⟩; have HB := Aside0.mk hb2; clear hb2)
    go_ret
    exact ⟨rfl, HB.out⟩
  · have hr : idxP p l = ((l.findIdx p : Nat) : Int) := by unfold idxP; rw [if_pos ha]
    rw [hr] at HI
    clear hr ha
    obtain ⟨i, hi⟩ : ∃ i, l.findIdx p = i := ⟨_, rfl⟩
    rw [hi] at HI
    have i0 : (0 : Int) ≤ (i : Int) := by omega
    clear hi
    go_enter Tryz.func42, Tryz.ntmps42
    go_wp2_with (go_at_call 71; refine HI.out.mono ?_; rintro e w2 ⟨rfl, hb2⟩; have HB := Aside0.mk hb2; clear hb2)
    go_ret
    exact ⟨rfl, HB.out⟩
end Go.Proofs.YtijaefmaceolbaaGreatDoor.Im

namespace Go.Proofs.YtijaefmaceolbaaGreatDoor.Im
open Go.RowKit Go.Proofs.YtijaefmaceolbaaGreatDoorW.PrintWords Go.Proofs.YtijaefmaceolbaaGreatDoorW.PrintLast Go.Proofs.YtijaefmaceolbaaGreatDoorW.PrintMore Go.Proofs.YtijaefmaceolbaaGreatDoor.Tr
set_option linter.unusedVariables false
set_option linter.unusedSimpArgs false
def cmpI (a b : Int) : Int := if a < b then -1 else if b < a then 1 else 0
def cmpL : List Int → List Int → Int
  | [], [] => 0
  | [], _ :: _ => -1
  | _ :: _, [] => 1
  | a :: l, b :: m => if a < b then -1 else if b < a then 1 else cmpL l m
theorem cmp_any (a b : Int) (w : World) : Calls Tryz.prog 73 #[.int .i64 a, .int .i64 b] w fun e w' => e = .returned (.int .i64 (cmpI a b)) ∧ w' = w := by
  by_cases h1 : a < b
  · have HR := Aside0.mk (show cmpI a b = -1 by unfold cmpI; rw [if_pos h1])
    go_enter Tryz.func73, Tryz.ntmps73
    go_wp2
    go_ret
    exact ⟨by rw [HR.out]; rfl, rfl⟩
  · by_cases h2 : b < a
    · have HR := Aside0.mk (show cmpI a b = 1 by unfold cmpI; rw [if_neg h1, if_pos h2])
      go_enter Tryz.func73, Tryz.ntmps73
      go_wp2
      go_ret
      exact ⟨by rw [HR.out]; rfl, rfl⟩
    · have HR := Aside0.mk (show cmpI a b = 0 by unfold cmpI; rw [if_neg h1, if_neg h2])
      go_enter Tryz.func73, Tryz.ntmps73
      go_wp2
      go_ret
      exact ⟨by rw [HR.out]; rfl, rfl⟩
theorem cmpL_both {l1 l2 : List Int} {k : Nat} (h1 : k < l1.length) (h2 : k < l2.length) : cmpL (l1.drop k) (l2.drop k) = if cmpI (rd l1 (k : Int)) (rd l2 (k : Int)) = 0 then cmpL (l1.drop (k + 1)) (l2.drop (k + 1)) else cmpI (rd l1 (k : Int)) (rd l2 (k : Int)) := by
  rw [List.drop_eq_getElem_cons h1, List.drop_eq_getElem_cons h2, cmpL]
  have e1 : rd l1 (k : Int) = l1[k] := by simp [rd, h1]
  have e2 : rd l2 (k : Int) = l2[k] := by simp [rd, h2]
  rw [e1, e2]
  unfold cmpI
  split
  · rfl
  split
  · rfl
  · rfl
set_option maxHeartbeats 800000 in
set_option maxRecDepth 100000 in
theorem compare_any (w : World) (A1 A2 : Option Addr) (c1 c2 : Nat) (l1 l2 : List Int) (hC1 : Kd.C (Kd.int .i64) w A1 l1.length l1) (hC2 : Kd.C (Kd.int .i64) w A2 l2.length l2) :
    Calls Tryz.prog 51 #[.slice A1 l1.length c1, .slice A2 l2.length c2] w fun e w' => e = .returned (.int .i64 (cmpL l1 l2)) ∧ w' = w := by
  have HC1 := Aside0.mk hC1
  have HC2 := Aside0.mk hC2
  have hmax : (l1.length : Int) ≤ 9223372036854775807 := by have := Kd.C_max hC1; omega
  clear hC1 hC2
  go_enter Tryz.func51, Tryz.ntmps51
  go_wp2_with fail
  go_loop [11] (fun v => ∃ k : Nat, k ≤ l1.length ∧ v = .int .i64 (k : Int) ∧ Aside0 (k ≤ l2.length) ∧ Aside0 (cmpL l1 l2 = cmpL (l1.drop k) (l2.drop k))) (fun v => l1.length - (intOf v).toNat)
  case atStart => exact ⟨0, by omega, rfl, ⟨by omega⟩, ⟨rfl⟩⟩
  case round =>
    obtain ⟨k, hk, rfl, HK2, HE⟩ := hrel
    have k0 : (0 : Int) ≤ (k : Int) := by omega
    by_cases hkn : k < l1.length
    · have hkn' : (k : Int) < (l1.length : Int) := by omega
      obtain ⟨ad1, rfl, hcell⟩ := Kd.at_int HC1.out (k : Int) k0 hkn'
      rw [Int.toNat_natCast] at hcell
      by_cases hk2 : k < l2.length
      · have hk2' : (k : Int) < (l2.length : Int) := by omega
        have hb2 : decide (l2.length ≤ k) = false := decide_eq_false (by omega)
        obtain ⟨ad2, rfl, hcell2⟩ := Kd.at_int HC2.out (k : Int) k0 hk2'
        rw [Int.toNat_natCast] at hcell2
        have hE2 := HE.out.trans (cmpL_both hkn hk2)
        have HK3 := Aside0.mk (show k + 1 ≤ l2.length from hk2)
        have HCM := Aside0.mk (fun w => cmp_any (rd l1 (k : Int)) (rd l2 (k : Int)) w)
        generalize rd l1 (k : Int) = a at *
        generalize rd l2 (k : Int) = b at *
        by_cases hc : cmpI a b = 0
        · rw [if_pos hc] at hE2
          rw [hc] at HCM
          have HE3 := Aside0.mk hE2
          clear hE2 hc
          go_wp2_with (go_at_call 73; refine (HCM.out _).mono ?_; rintro e w2 ⟨rfl, rfl⟩)
          go_round
          case rel => exact ⟨k + 1, by omega, by go_num, HK3, HE3⟩
          case measure => simp [intOf]; omega
        · rw [if_neg hc] at hE2
          have HE3 := Aside0.mk hE2
          have hcb : (cmpI a b != 0) = true := bne_iff_ne.2 hc
          clear hE2 hc
          generalize cmpI a b = x at *
          go_wp2_with (go_at_call 73; refine (HCM.out _).mono ?_; rintro e w2 ⟨rfl, rfl⟩)
          go_ret
          exact ⟨by rw [HE3.out]; rfl, rfl⟩
      · have hb2 : decide (l2.length ≤ k) = true := decide_eq_true (by omega)
        have hb3 : decide ((l2.length : Int) ≤ (k : Int)) = true := decide_eq_true (by omega)
        have HR := Aside0.mk (show cmpL l1 l2 = 1 by rw [HE.out, List.drop_eq_getElem_cons hkn, List.drop_eq_nil_of_le (by omega : l2.length ≤ k)]; rfl)
        go_wp2_with fail
        go_ret
        exact ⟨by rw [HR.out]; rfl, rfl⟩
    · have hkl : l1.length = k := by omega
      have hnil := HE.out
      rw [List.drop_eq_nil_of_le (by omega : l1.length ≤ k)] at hnil
      by_cases hlt : l1.length < l2.length
      · have HR := Aside0.mk (show cmpL l1 l2 = -1 by rw [hnil, List.drop_eq_getElem_cons (by omega : k < l2.length)]; rfl)
        have hb : decide (l1.length < l2.length) = true := decide_eq_true hlt
        clear hnil hkl
        go_wp2_with fail
        go_ret
        exact ⟨by rw [HR.out]; rfl, rfl⟩
      · have HR := Aside0.mk (show cmpL l1 l2 = 0 by rw [hnil, List.drop_eq_nil_of_le (by omega : l2.length ≤ k)]; rfl)
        have hb : decide (l1.length < l2.length) = false := decide_eq_false hlt
        clear hnil hkl
        go_wp2_with fail
        go_ret
        exact ⟨by rw [HR.out]; rfl, rfl⟩
theorem core3_any (w : World) (A1 A2 : Option Addr) (c1 c2 : Nat) (l1 l2 : List Int) (hC1 : Kd.C (Kd.int .i64) w A1 l1.length l1) (hC2 : Kd.C (Kd.int .i64) w A2 l2.length l2) :
    Calls Tryz.prog 50 #[.slice A1 l1.length c1, .slice A2 l2.length c2] w fun e w' => e = .returned (.int .i64 (cmpL l1 l2)) ∧ w' = w := by
  have HC := Aside0.mk (compare_any w A1 A2 c1 c2 l1 l2 hC1 hC2)
  clear hC1 hC2
  generalize l1.length = n1 at *
  generalize l2.length = n2 at *
  generalize cmpL l1 l2 = r at *
  go_enter Tryz.func50, Tryz.ntmps50
  go_wp2_with (go_at_call 51; refine HC.out.mono ?_; rintro e w2 ⟨rfl, rfl⟩)
  go_ret
  exact ⟨rfl, rfl⟩
theorem cf50 (args : Array Value) (w : World) : (callFunc 50 args).run Tryz.prog w = .ok (.enter 50 args) w := by kernel_rfl
def minG (m : List Int) (l : List (List Int)) : List Int := l.foldl (fun m x => if cmpL x m < 0 then x else m) m
def minX (xs : List (List Int)) (k : Nat) : List Int := minG (rd_L2 xs 0) ((xs.take k).drop 1)
theorem minX_succ {xs : List (List Int)} {k : Nat} (h1 : 1 ≤ k) (h : k < xs.length) : minX xs (k + 1) = if cmpL (rd_L2 xs (k : Int)) (minX xs k) < 0 then rd_L2 xs (k : Int) else minX xs k := by
  unfold minX minG
  rw [List.take_succ_eq_append_getElem h, List.drop_append_of_le_length (by rw [List.length_take]; omega), List.foldl_append]
  have e : rd_L2 xs (k : Int) = xs[k] := by simp [rd_L2, h]
  rw [e]
  rfl
theorem minX_one (xs : List (List Int)) : minX xs 1 = rd_L2 xs 0 := by
  unfold minX minG
  rw [List.drop_eq_nil_of_le (by rw [List.length_take]; omega)]
  rfl
def MinPost (xs : List (List Int)) (w : World) (e : Ending) (w' : World) : Prop :=
  ∃ A c, e = .returned (.slice A (minX xs xs.length).length c) ∧ (minX xs xs.length).length ≤ c ∧ Kd.C (Kd.int .i64) w' A (minX xs xs.length).length (minX xs xs.length) ∧ w' = w
set_option maxHeartbeats 800000 in
set_option maxRecDepth 100000 in
theorem minfunc_any (w : World) (A : Option Addr) (c : Nat) (xs : List (List Int)) (h1 : 1 ≤ xs.length) (hC : Kd.C (Kd.slice 3 (Kd.int .i64)) w A xs.length xs) :
    Calls Tryz.prog 48 #[.slice A xs.length c, .func (.func 50) #[] #[]] w (MinPost xs w) := by
  have HC := Aside0.mk hC
  have hmax : (xs.length : Int) ≤ 9223372036854775807 := by have := Kd.C_max hC; omega
  have hb : decide (xs.length < 1) = false := decide_eq_false (by omega)
  have hb2 : decide ((xs.length : Int) < 1) = false := decide_eq_false (by omega)
  have E := cf50
  obtain ⟨ad, A0, c0, rfl, hc0, hl0, hC0⟩ := at_L2 hC 0 (by omega) (by omega)
  have hn0 : (0 : Int) < (xs.length : Int) := by omega
  have HX := Aside0.mk (minX_one xs)
  rw [← HX.out] at hc0 hl0 hC0
  rw [show Int.toNat 0 = 0 from rfl, add_zero] at hc0
  have HC0 := Aside0.mk hC0
  have HL0 := Aside0.mk hl0
  clear hC hC0 hl0
  go_enter Tryz.func48, Tryz.ntmps48
  go_wp2_with fail
  go_loop [5, 6] (fun v5 v6 => ∃ (k : Nat) (Am : Option Addr) (cm : Nat), k ≤ xs.length ∧ v6 = .int .i64 (k : Int) ∧ v5 = .slice Am (minX xs k).length cm ∧ Aside0 (1 ≤ k) ∧ Aside0 ((minX xs k).length ≤ cm) ∧ Aside0 (Kd.C (Kd.int .i64) w Am (minX xs k).length (minX xs k))) (fun _ v6 => xs.length - (intOf v6).toNat)
  case atStart => exact ⟨1, A0, c0, h1, rfl, rfl, ⟨Nat.le_refl _⟩, HL0, HC0⟩
  case round =>
    clear HC0 HL0 hc0
    obtain ⟨k, Am, cm, hk, rfl, rfl, HK1, HLm, HCm⟩ := hrel
    have k0 : (0 : Int) ≤ (k : Int) := by omega
    by_cases hkn : k < xs.length
    · have hkn' : (k : Int) < (xs.length : Int) := by omega
      obtain ⟨ad2, A2, c2, e2, hc2, hl2, hC2⟩ := at_L2 HC.out (k : Int) k0 hkn'
      obtain rfl := Option.some.inj e2
      rw [Int.toNat_natCast] at hc2
      have HS := Aside0.mk (minX_succ HK1.out hkn)
      have HCM := Aside0.mk (core3_any w A2 Am c2 cm (rd_L2 xs (k : Int)) (minX xs k) hC2 HCm.out)
      have HC2 := Aside0.mk hC2
      have HL2 := Aside0.mk hl2
      have HK2 := Aside0.mk (show 1 ≤ k + 1 by omega)
      clear hC2 hl2 e2
      by_cases hc : cmpL (rd_L2 xs (k : Int)) (minX xs k) < 0
      · have hs := HS.out
        rw [if_pos hc] at hs
        have HS2 := Aside0.mk hs
        have hcb : decide (cmpL (rd_L2 xs (k : Int)) (minX xs k) < 0) = true := decide_eq_true hc
        clear hs HS
        obtain ⟨M2, hM2⟩ : ∃ M2, minX xs (k + 1) = M2 := ⟨_, rfl⟩
        rw [hM2] at HS2
        have HM2 := Aside0.mk hM2
        clear hM2
        generalize cmpL (rd_L2 xs (k : Int)) (minX xs k) = r at *
        generalize rd_L2 xs (k : Int) = x at *
        generalize minX xs k = m at *
        generalize hxl : x.length = nx at *
        generalize hml : m.length = nm at *
        have HXL := Aside0.mk hxl
        clear hxl hml
        go_wp2_with fail
        refine HCM.out.mono ?_
        rintro e w2 ⟨rfl, rfl⟩
        go_wp2_with fail
        go_round
        case rel => exact ⟨k + 1, A2, c2, by omega, by go_num, by rw [HM2.out, HS2.out, HXL.out], HK2, ⟨by rw [HM2.out, HS2.out, HXL.out]; exact HL2.out⟩, ⟨by rw [HM2.out, HS2.out, HXL.out]; exact HC2.out⟩⟩
        case measure => simp [intOf]; omega
      · have hs := HS.out
        rw [if_neg hc] at hs
        have HS2 := Aside0.mk hs
        have hcb : decide (cmpL (rd_L2 xs (k : Int)) (minX xs k) < 0) = false := decide_eq_false hc
        clear hs HS
        obtain ⟨M2, hM2⟩ : ∃ M2, minX xs (k + 1) = M2 := ⟨_, rfl⟩
        rw [hM2] at HS2
        have HM2 := Aside0.mk hM2
        clear hM2
        generalize cmpL (rd_L2 xs (k : Int)) (minX xs k) = r at *
        generalize rd_L2 xs (k : Int) = x at *
        generalize minX xs k = m at *
        generalize hxl : x.length = nx at *
        generalize hml : m.length = nm at *
        have HXL := Aside0.mk hml
        clear hxl hml
        go_wp2_with fail
        refine HCM.out.mono ?_
        rintro e w2 ⟨rfl, rfl⟩
        go_wp2_with fail
        go_round
        case rel => exact ⟨k + 1, Am, cm, by omega, by go_num, by rw [HM2.out, HS2.out, HXL.out], HK2, ⟨by rw [HM2.out, HS2.out, HXL.out]; exact HLm.out⟩, ⟨by rw [HM2.out, HS2.out, HXL.out]; exact HCm.out⟩⟩
        case measure => simp [intOf]; omega
    · obtain rfl : k = xs.length := by omega
      go_wp2_with fail
      go_ret
      exact ⟨Am, cm, rfl, HLm.out, HCm.out, rfl⟩
end Go.Proofs.YtijaefmaceolbaaGreatDoor.Im

namespace Go.Proofs.YtijaefmaceolbaaGreatDoor.Im
open Go.RowKit Go.Proofs.YtijaefmaceolbaaGreatDoorW.PrintWords Go.Proofs.YtijaefmaceolbaaGreatDoorW.PrintLast Go.Proofs.YtijaefmaceolbaaGreatDoorW.PrintMore Go.Proofs.YtijaefmaceolbaaGreatDoor.Tr
set_option linter.unusedVariables false
set_option linter.unusedSimpArgs false
def leavB (S : Sg) (s j : Nat) : Bool := ((S j).1 || (S j).2) && !s.testBit j
def leavesB (n : Nat) (S : Sg) (s : Nat) : Bool := (List.range n).any (leavB S s)
theorem leaves_yes {n : Nat} {S : Sg} {s k : Nat} (hk : k < n) (h : leavB S s k = true) : leavesB n S s = true := List.any_eq_true.2 ⟨k, List.mem_range.2 hk, h⟩
theorem leaves_no {n : Nat} {S : Sg} {s : Nat} (h : ∀ j, j < n → leavB S s j = false) : leavesB n S s = false := List.any_eq_false.2 fun j hj => by rw [h j (List.mem_range.1 hj)]; simp
set_option maxHeartbeats 1600000 in
set_option maxRecDepth 100000 in
theorem leaves_any (n : Nat) (S : Sg) (s : Nat) (hn : n ≤ 10) (hs : s < 4096) (w : World) (A : Value) (gr : Nat) (hb : Blk w gr 77 (rowC n S)) :
    Calls Tryz.prog 45 #[A, .slice (some ⟨gr, 0, none⟩) n n, .int .i64 (s : Nat)] w (BoolPost (leavesB n S s) w) := by
  have HBK := Aside0.mk hb
  have HB0 := Aside0.mk (Below.refl w.heap.size w)
  have n0 : (0 : Int) ≤ (n : Int) := by omega
  clear hb
  go_enter Tryz.func45, Tryz.ntmps45
  go_wp2_with fail
  go_loopw [11] (fun v wr => ∃ k : Nat, k ≤ n ∧ v = .int .i64 (k : Int) ∧ Aside0 (∀ j, j < k → leavB S s j = false) ∧ Aside0 (Below w.heap.size w wr)) (fun v _ => n - (intOf v).toNat)
  case atStart => exact ⟨0, by omega, rfl, ⟨fun j hj => absurd hj (by omega)⟩, HB0⟩
  case round =>
    clear HB0
    obtain ⟨k, hk, rfl, HN, HB⟩ := hrel
    have k0 : (0 : Int) ≤ (k : Int) := by omega
    by_cases hkn : k < n
    · have hkn' : (k : Int) < (n : Int) := by omega
      have hbk := HBK.out.later HB.out
      have ce : wr.cell? ⟨gr, k * 2, none⟩ = some (.bool (S k).1) := by rw [hbk.cell]; exact rowC_even n S k hkn
      have co : wr.cell? ⟨gr, k * 2 + 1, none⟩ = some (.bool (S k).2) := by rw [hbk.cell]; exact rowC_odd n S k hkn
      have hbit := b_bit0 s k (by omega)
      have hdef : leavB S s k = (((S k).1 || (S k).2) && !s.testBit k) := rfl
      have HY := Aside0.mk (leaves_yes (n := n) (S := S) (s := s) hkn)
      have HNN := Aside0.mk (fun (h : leavB S s k = false) => (show ∀ j, j < k + 1 → leavB S s j = false from fun j hj => by
        rcases Nat.lt_or_ge j k with h' | h'
        · exact HN.out j h'
        · have : j = k := by omega
          subst this; exact h))
      clear hbk
      generalize (S k).1 = x1 at *
      generalize (S k).2 = x2 at *
      generalize s.testBit k = x3 at *
      cases x1 <;> cases x2 <;> cases x3
      all_goals
        first
        | (have HR := Aside0.mk (HY.out (by rw [hdef]; rfl))
           clear hdef HY HNN
           go_wp2_with fail
           go_ret
           exact ⟨by rw [HR.out]; rfl, below_alloc HB.out _⟩)
        | (have HR := Aside0.mk (HNN.out (by rw [hdef]; rfl))
           clear hdef HY HNN
           go_wp2_with fail
           go_roundw
           case rel => exact ⟨k + 1, by omega, by go_num, HR, ⟨below_alloc HB.out _⟩⟩
           case measure => simp [intOf]; omega)
    · obtain rfl : n = k := by omega
      have HR := Aside0.mk (leaves_no HN.out)
      go_wp2_with fail
      go_ret
      exact ⟨by rw [HR.out]; rfl, HB.out⟩
end Go.Proofs.YtijaefmaceolbaaGreatDoor.Im

namespace Go.Proofs.YtijaefmaceolbaaGreatDoor.Im
open Go.RowKit Go.Proofs.YtijaefmaceolbaaGreatDoorW.PrintWords Go.Proofs.YtijaefmaceolbaaGreatDoorW.PrintLast Go.Proofs.YtijaefmaceolbaaGreatDoorW.PrintMore Go.Proofs.YtijaefmaceolbaaGreatDoor.Tr
set_option linter.unusedVariables false
set_option linter.unusedSimpArgs false
theorem cf44 (args : Array Value) (w : World) : (callFunc 44 args).run Tryz.prog w = .ok (.enter 44 args) w := by kernel_rfl
theorem cf47 (args : Array Value) (w : World) : (callFunc 47 args).run Tryz.prog w = .ok (.enter 47 args) w := by kernel_rfl
set_option maxHeartbeats 800000 in
set_option maxRecDepth 100000 in
theorem core1_any {n : Nat} {fs : List Fm} (hn : n ≤ 10) (s i : Nat) (hs : s < 4096) (hi : i < n) (w : World) (sl : Value) (gs ga gm gset : Nat) (R : Nat → Nat)
    (bs : Blk w gs 47 #[sl]) (ba : Blk w ga 62 #[.slice (some ⟨gm, 0, none⟩) n n]) (M : ArcM n fs gm R w) (bt : Blk w gset 3 #[.int .i64 (s : Nat)]) :
    Calls Tryz.prog 44 #[.int .i64 (i : Nat), .pointer (some ⟨gs, 0, none⟩), .pointer (some ⟨ga, 0, none⟩), .pointer (some ⟨gset, 0, none⟩)] w (BoolPost (leavesB n (sgF fs i) s) w) := by
  have i0 : (0 : Int) ≤ (i : Int) := by omega
  have i1 : (i : Int) < (n : Int) := by omega
  have cs : w.cell? ⟨gs, 0, none⟩ = some sl := bs.cell 0
  have ca : w.cell? ⟨ga, 0, none⟩ = some (.slice (some ⟨gm, 0, none⟩) n n) := ba.cell 0
  have cm : w.cell? ⟨gm, i, none⟩ = some (.slice (some ⟨R i, 0, none⟩) n n) := by rw [M.bm.cell]; exact mtxC_get n n R i hi hi
  have ct : w.cell? ⟨gset, 0, none⟩ = some (.int .i64 (s : Nat)) := bt.cell 0
  have HL := Aside0.mk (fun (w1 : World) (h : Blk w1 (R i) 77 (rowC n (sgF fs i))) => leaves_any n (sgF fs i) s hn hs w1 sl (R i) h)
  have HB := Aside0.mk (M.br i hi)
  generalize leavesB n (sgF fs i) s = r at *
  clear M bs ba bt
  go_enter Tryz.func44, Tryz.ntmps44
  go_wp2_with fail
  have hS : ∀ w2, Below w.drew.heap.size w.drew w2 → w2.cell? ⟨gs, 0, none⟩ = some sl ∧ w2.cell? ⟨ga, 0, none⟩ = some (.slice (some ⟨gm, 0, none⟩) n n) ∧ w2.cell? ⟨gm, i, none⟩ = some (.slice (some ⟨R i, 0, none⟩) n n) ∧ w2.cell? ⟨gset, 0, none⟩ = some (.int .i64 (s : Nat)) :=
    fun w2 h => ⟨pw_cell_below h cs, pw_cell_below h ca, pw_cell_below h cm, pw_cell_below h ct⟩
  have HSS := Aside0.mk hS
  clear hS
  have HL2 := Aside0.mk (HL.out w.drew HB.out.drew)
  go_region_held3 (fun w' => w'.cell? ⟨gs, 0, none⟩ = some sl ∧ w'.cell? ⟨ga, 0, none⟩ = some (.slice (some ⟨gm, 0, none⟩) n n) ∧ w'.cell? ⟨gm, i, none⟩ = some (.slice (some ⟨R i, 0, none⟩) n n) ∧ w'.cell? ⟨gset, 0, none⟩ = some (.int .i64 (s : Nat))) (first | go_keep | exact HSS.out _ hb2)
    (first | (go_at_call 45; refine HL2.out.mono ?_; rintro e w2 ⟨rfl, hb2⟩))
  have HB2 := Aside0.mk ((below_drew (Below.refl w.heap.size w)).trans hb2)
  go_wp2_with fail
  go_ret
  exact ⟨rfl, HB2.out⟩
theorem core1_p {n : Nat} {fs : List Fm} (hn : n ≤ 10) (s : Nat) (hs : s < 4096) (w : World) (sl : Value) (gs ga gm gset : Nat) (R : Nat → Nat)
    (bs : Blk w gs 47 #[sl]) (ba : Blk w ga 62 #[.slice (some ⟨gm, 0, none⟩) n n]) (M : ArcM n fs gm R w) (bt : Blk w gset 3 #[.int .i64 (s : Nat)]) :
    PredC w 44 #[.pointer (some ⟨gs, 0, none⟩), .pointer (some ⟨ga, 0, none⟩), .pointer (some ⟨gset, 0, none⟩)] (fun x => ∃ i : Nat, i < n ∧ x = (i : Int)) (fun x => leavesB n (sgF fs x.toNat) s) where
  enter := cf44
  calls := fun x hx w' hb => by
    obtain ⟨i, hi, rfl⟩ := hx
    exact core1_any hn s i hs hi w' sl gs ga gm gset R (bs.later hb) (ba.later hb) (M.later hb) (bt.later hb)
theorem core2_any (c s : Nat) (hc : c < 4096) (hs : s < 4096) (w : World) (gset : Nat) (bt : Blk w gset 3 #[.int .i64 (s : Nat)]) :
    Calls Tryz.prog 47 #[.int .i64 (c : Nat), .pointer (some ⟨gset, 0, none⟩)] w (BoolPost (andN c s == 0) w) := by
  have ct : w.cell? ⟨gset, 0, none⟩ = some (.int .i64 (s : Nat)) := bt.cell 0
  have HA := Aside0.mk (b_andN c s (by omega) (by omega))
  clear bt
  go_enter Tryz.func47, Tryz.ntmps47
  go_wp2_with fail
  go_ret
  refine ⟨?_, Below.refl _ _⟩
  show Ending.returned (.bool (bits .andNot .i64 (c : Int) s == 0)) = _
  rw [HA.out]
  by_cases h : andN c s = 0
  · rw [h]; rfl
  · rw [beq_eq_false_iff_ne.2 h, beq_eq_false_iff_ne.2 (by omega)]
theorem core2_p (s : Nat) (hs : s < 4096) (w : World) (gset : Nat) (bt : Blk w gset 3 #[.int .i64 (s : Nat)]) :
    PredC w 47 #[.pointer (some ⟨gset, 0, none⟩)] (fun x => ∃ i : Nat, i < 4096 ∧ x = (i : Int)) (fun x => andN x.toNat s == 0) where
  enter := cf47
  calls := fun x hx w' hb => by
    obtain ⟨i, hi, rfl⟩ := hx
    exact core2_any i s hi hs w' gset (bt.later hb)
end Go.Proofs.YtijaefmaceolbaaGreatDoor.Im

namespace Go.Proofs.YtijaefmaceolbaaGreatDoor.Im
open Go.RowKit Go.Proofs.YtijaefmaceolbaaGreatDoorW.PrintWords Go.Proofs.YtijaefmaceolbaaGreatDoorW.PrintLast Go.Proofs.YtijaefmaceolbaaGreatDoorW.PrintMore Go.Proofs.YtijaefmaceolbaaGreatDoor.Tr
set_option linter.unusedVariables false
set_option linter.unusedSimpArgs false
def BRow (w : World) (g n : Nat) (xs : List T3) : Prop :=
  ∃ cs m, w.heap[g]? = some (.cells cs 5 (m, m + 1)) ∧ n ≤ m ∧ xs.length = n ∧ ∀ j, j < n → cs[j]? = some (.int .u8 (b3 (getV xs j)))
section
variable {w w' : World} {g n : Nat} {xs : List T3}
theorem BRow.lt (h : BRow w g n xs) : g < w.heap.size := by
  obtain ⟨cs, m, h, _⟩ := h
  rcases Nat.lt_or_ge g w.heap.size with hlt | hge
  · exact hlt
  · rw [Array.getElem?_eq_none hge] at h; cases h
theorem BRow.cell (h : BRow w g n xs) (j : Nat) (hj : j < n) : w.cell? ⟨g, j, none⟩ = some (.int .u8 (b3 (getV xs j))) := by
  obtain ⟨cs, m, h, _, _, hc⟩ := h
  rw [cell_of_row w g j cs _ _ h]
  exact hc j hj
theorem BRow.frozen (h : BRow w g n xs) (j : Nat) (hj : j < n) : w.frozen? ⟨g, j, none⟩ = false := by
  obtain ⟨cs, m, h, hm, _⟩ := h
  simp [World.frozen?, h]
  omega
theorem BRow.keep {p : Nat → Prop} (h : BRow w g n xs) (k : Keep p w w') (hp : p g) : BRow w' g n xs := by
  have hlt := h.lt
  obtain ⟨cs, m, h, h2⟩ := h
  exact ⟨cs, m, (k.block g hlt hp).trans h, h2⟩
theorem BRow.later (h : BRow w g n xs) (k : Below w.heap.size w w') : BRow w' g n xs := h.keep (p := fun _ => True) (Keep.of_below k) trivial
theorem BRow.drew (h : BRow w g n xs) : BRow w.drew g n xs := h
theorem BRow.len (h : BRow w g n xs) : xs.length = n := by obtain ⟨_, _, _, _, h, _⟩ := h; exact h
theorem getV_set {xs : List T3} {j : Nat} {c : T3} (hj : j < xs.length) (i : Nat) : getV (xs.set j c) i = if i = j then c else getV xs i := by
  unfold getV
  rw [List.getD_eq_getElem?_getD, List.getD_eq_getElem?_getD, List.getElem?_set]
  by_cases h : j = i
  · subst h; rw [if_pos rfl, if_pos rfl, if_pos hj]; rfl
  · rw [if_neg h, if_neg (fun e => h e.symm)]
theorem BRow.set_ (h : BRow w g n xs) (j : Nat) (hj : j < n) (c : T3) : BRow (w.setCell ⟨g, j, none⟩ (.int .u8 (b3 c))) g n (xs.set j c) := by
  obtain ⟨cs, m, h, hm, hl, hc⟩ := h
  refine ⟨cs.setIfInBounds j (.int .u8 (b3 c)), m, ?_, hm, by rw [List.length_set]; exact hl, fun i hi => ?_⟩
  · simp [World.setCell, Array.getElem?_modify, h]
  · rw [getV_set (by omega)]
    have hcj := hc j hj
    have hjs : j < cs.size := by
      rcases Nat.lt_or_ge j cs.size with h' | h'
      · exact h'
      · rw [Array.getElem?_eq_none h'] at hcj; cases hcj
    by_cases e : i = j
    · subst e; rw [if_pos rfl]; simp [hjs]
    · rw [if_neg e, Array.getElem?_setIfInBounds, if_neg (fun e' => e e'.symm)]
      exact hc i hi
theorem strOf_b3 (xs : List T3) : strOfNums (xs.map b3) = strV xs := by
  show (⟨((xs.map b3).map fun n => UInt8.ofNat n.toNat).toArray⟩ : ByteArray) = ⟨(xs.map byte3).toArray⟩
  rw [List.map_map]
  congr 3
  funext c
  show UInt8.ofNat (b3 c).toNat = byte3 c
  rcases c with _ | (_ | _) <;> rfl
theorem BRow.conv (h : BRow w g n xs) (cap : Nat) : (convert 87 9 (.slice (some ⟨g, 0, none⟩) n cap)).run Tryz.prog w = .ok (.string (strV xs)) w := by
  rw [← strOf_b3]
  refine run_convert_bytes_arg w 87 5 Tryz.underlying87 Tryz.underlying5 g 0 n cap (xs.map b3) (by rw [List.length_map]; exact h.len) (fun i hi => ?_) 9 Tryz.underlying9
  rw [Nat.zero_add, h.cell i hi]
  have hi' : i < xs.length := by rw [h.len]; exact hi
  simp [getV, hi']
theorem BRow.new (W : World) (xs : List T3) : BRow (Lib.bytesWorld W 5 (strV xs)) W.heap.size xs.length xs := by
  refine ⟨_, _, Lib.bytesWorld_at_new W _ _, ?_, rfl, fun j hj => ?_⟩
  · simp only [Lib.bytesCells, Array.size_append, Array.size_map]
    have : (strV xs).data.size = xs.length := strV_size xs
    omega
  · have hc := Lib.bytesWorld_cell W 5 (strV xs) j (by rw [strV_size]; exact hj)
    rw [cell_of_row _ _ j _ _ _ (Lib.bytesWorld_at_new W _ _)] at hc
    rw [hc]
    have : (strV xs).data.toList.getD j 0 = byte3 (getV xs j) := by simp [strV, getV, hj]
    rw [this]
    rfl
end
theorem repeat_c (c : T3) (n : Nat) (hn : n ≤ 10) (w : World) : Calls Tryz.prog 28 #[.string (strV [c]), .int .i64 (n : Int)] w fun e w' => e = .returned (.string (strV (List.replicate n c))) ∧ Below w.heap.size w w' :=
  (Any.strings_Repeat Tryz.lays105 Tryz.Builder_Extra_105 (strV [c]) n w (by omega) (by rw [strV_size]; show 1 * n ≤ _; omega)).mono fun e w' ⟨h1, h2⟩ => ⟨by
    rw [h1]
    have e1 : ∀ n, Lib.repeatL (strV [c]).data.toList n = List.replicate n (byte3 c) := fun n => by
      induction n with
      | zero => rfl
      | succ n ih => rw [Lib.repeatL, ih, List.replicate_succ]; rfl
    rw [e1]
    unfold strV
    rw [List.map_replicate], h2⟩
end Go.Proofs.YtijaefmaceolbaaGreatDoor.Im

namespace Go.Proofs.YtijaefmaceolbaaGreatDoor.Im
open Go.RowKit Go.Proofs.YtijaefmaceolbaaGreatDoorW.PrintWords Go.Proofs.YtijaefmaceolbaaGreatDoorW.PrintLast Go.Proofs.YtijaefmaceolbaaGreatDoorW.PrintMore Go.Proofs.YtijaefmaceolbaaGreatDoor.Tr
set_option linter.unusedVariables false
set_option linter.unusedSimpArgs false
theorem cf80 (args : Array Value) (w : World) : (callFunc 72 args).run Tryz.prog w = .ok (.enter 72 args) w := by kernel_rfl
theorem b3_inj {a b : T3} (h : b3 a = b3 b) : a = b := by
  rcases a with _ | (_ | _) <;> rcases b with _ | (_ | _) <;> first | rfl | (exact absurd h (by decide))
theorem b3_ne (a b : T3) : (b3 a != b3 b) = decide (a ≠ b) := by
  by_cases h : a = b
  · subst h; simp
  · rw [decide_eq_true h, bne_iff_ne]
    exact fun e => h (b3_inj e)
set_option maxHeartbeats 1600000 in
set_option maxRecDepth 100000 in
theorem cons1_any {n : Nat} {fs : List Fm} (S : Tr.Sys n fs) (i : Nat) (hi : i < n) (w : World) (A : Option Addr) (c gs gv gb cap : Nat) (xs : List T3)
    (hC : Kd.C kF w A n fs) (bs : Blk w gs 47 #[.slice A n c]) (bv : Blk w gv 87 #[.slice (some ⟨gb, 0, none⟩) n cap]) (bb : BRow w gb n xs) :
    Calls Tryz.prog 72 #[.int .i64 (i : Nat), .pointer (some ⟨gs, 0, none⟩), .pointer (some ⟨gv, 0, none⟩)] w (BoolPost (decide (ev (getV xs) (fmA fs i) ≠ getV xs i)) w) := by
  have i0 : (0 : Int) ≤ (i : Int) := by omega
  have i1 : (i : Int) < (n : Int) := by omega
  have cs : w.cell? ⟨gs, 0, none⟩ = some (.slice A n c) := bs.cell 0
  have cv : w.cell? ⟨gv, 0, none⟩ = some (.slice (some ⟨gb, 0, none⟩) n cap) := bv.cell 0
  have cb := bb.cell i hi
  obtain ⟨ad, rfl, cf⟩ := at_F hC i hi
  have hcv : ∀ w2, BRow w2 gb n xs → (convert 87 9 (.slice (some ⟨gb, 0, none⟩) n cap)).run Tryz.prog w2 = .ok (.string (strV xs)) w2 := fun w2 h => h.conv cap
  have hbd : BRow w.drew gb n xs := bb.drew
  have HV := Aside0.mk (value_any (v := xs) bb.len (fmA fs i) w.drew (fmA_low S i))
  obtain ⟨t, u, he, hm, hcf⟩ := enc_open (fmA fs i)
  rw [he] at cf
  rw [← b3_ne]
  have HE := Aside0.mk he
  have hS : ∀ w2, Below w.drew.heap.size w.drew w2 → w2.cell? ⟨gs, 0, none⟩ = some (.slice (some ad) n c) ∧ w2.cell? ⟨gv, 0, none⟩ = some (.slice (some ⟨gb, 0, none⟩) n cap) ∧ w2.cell? (ad.add i) = some (.iface t u) ∧ w2.cell? ⟨gb, i, none⟩ = some (.int .u8 (b3 (getV xs i))) ∧ BRow w2 gb n xs :=
    fun w2 h => ⟨pw_cell_below h cs, pw_cell_below h cv, pw_cell_below h cf, pw_cell_below h cb, bb.drew.later h⟩
  have HSS := Aside0.mk hS
  clear hS hC bs bv bb he S
  generalize valF (fmA fs i) = φ at *
  generalize payF (fmA fs i) = π at *
  generalize ev (getV xs) (fmA fs i) = r at *
  generalize getV xs i = y at *
  generalize strV xs = s at *
  go_enter Tryz.func72, Tryz.ntmps72
  go_wp2_with fail
  go_region_held3 (fun w' => w'.cell? ⟨gs, 0, none⟩ = some (.slice (some ad) n c) ∧ w'.cell? ⟨gv, 0, none⟩ = some (.slice (some ⟨gb, 0, none⟩) n cap) ∧ w'.cell? (ad.add i) = some (.iface t u) ∧ w'.cell? ⟨gb, i, none⟩ = some (.int .u8 (b3 y)) ∧ BRow w' gb n xs) (first | go_keep | exact HSS.out _ hb2)
    (first | (refine HV.out.mono ?_; rintro e w2 ⟨rfl, hb2⟩))
  have HB2 := Aside0.mk ((below_drew (Below.refl w.heap.size w)).trans hb2)
  go_wp2_with fail
  go_ret
  exact ⟨rfl, HB2.out⟩
def badAt (fs : List Fm) (xs : List T3) (x : Int) : Bool := decide (ev (getV xs) (fmA fs x.toNat) ≠ getV xs x.toNat)
theorem cons1_p {n : Nat} {fs : List Fm} (S : Tr.Sys n fs) (w : World) (A : Option Addr) (c gs gv gb cap : Nat) (xs : List T3)
    (hC : Kd.C kF w A n fs) (bs : Blk w gs 47 #[.slice A n c]) (bv : Blk w gv 87 #[.slice (some ⟨gb, 0, none⟩) n cap]) (bb : BRow w gb n xs) :
    PredC w 72 #[.pointer (some ⟨gs, 0, none⟩), .pointer (some ⟨gv, 0, none⟩)] (fun x => ∃ i : Nat, i < n ∧ x = (i : Int)) (badAt fs xs) where
  enter := cf80
  calls := fun x hx w' hb => by
    obtain ⟨i, hi, rfl⟩ := hx
    exact cons1_any S i hi w' A c gs gv gb cap xs (Kd.C_below hC hb) (bs.later hb) (bv.later hb) (bb.later hb)
def Writ (M : List Nat) (n bits k : Nat) (xs : List T3) : Prop := (∀ q, q < k → getV xs (M.getD q 0) = some (bits.testBit q)) ∧ ∀ j, j < n → j ∉ M → getV xs j = some false
theorem writ_ev {n : Nat} {fs : List Fm} (S : Tr.Sys n fs) {M : List Nat} (hM : M.Nodup) {bits : Nat} {xs : List T3} (h : Writ M n bits M.length xs) (i : Nat) (hi : i < n) : getV xs i = some (depB M bits i) ∧ ev (getV xs) (fmA fs i) = ev (fun j => some (depB M bits j)) (fmA fs i) := by
  have key : ∀ j, j < n → getV xs j = some (depB M bits j) := fun j hj => by
    by_cases hm : j ∈ M
    · obtain ⟨q, hq, rfl⟩ := List.getElem_of_mem hm
      have e : M[q] = M.getD q 0 := by simp [hq]
      rw [e, h.1 q hq, depB_at hM hq]
    · rw [h.2 j hj hm, depB_out hm]
  exact ⟨key i hi, ev_occ fun j hj => key j (occ_low (fmA_low S i) hj)⟩
theorem writ_try {n : Nat} {fs : List Fm} (S : Tr.Sys n fs) {M : List Nat} (hM : M.Nodup) (hMn : ∀ i ∈ M, i < n) {bits : Nat} {xs : List T3} (h : Writ M n bits M.length xs) : (ints M).any (badAt fs xs) = !tryP fs M bits := by
  unfold tryP ints
  rw [List.any_map]
  have : ∀ l : List Nat, (∀ i ∈ l, i < n) → (l.any ((badAt fs xs) ∘ fun x : Nat => (x : Int))) = !(l.all fun i => ev (fun j => some (depB M bits j)) (fmA fs i) == some (depB M bits i)) := by
    intro l
    induction l with
    | nil => intro _; rfl
    | cons a l ih =>
      intro hl
      rw [List.any_cons, List.all_cons, ih (fun i hi => hl i (by simp [hi]))]
      obtain ⟨h1, h2⟩ := writ_ev S hM h a (hl a (by simp))
      have : (badAt fs xs ∘ fun x : Nat => (x : Int)) a = !(ev (fun j => some (depB M bits j)) (fmA fs a) == some (depB M bits a)) := by
        show decide (ev (getV xs) (fmA fs (Int.toNat (a : Int))) ≠ getV xs (Int.toNat (a : Int))) = _
        rw [Int.toNat_natCast, h1, h2]
        by_cases he : ev (fun j => some (depB M bits j)) (fmA fs a) = some (depB M bits a)
        · rw [he]; simp
        · rw [beq_eq_false_iff_ne.2 he]; simpa using he
      rw [this]
      cases (ev (fun j => some (depB M bits j)) (fmA fs a) == some (depB M bits a)) <;> rfl
  exact this M hMn
theorem writ_set {M : List Nat} (hM : M.Nodup) {n bits k : Nat} {xs : List T3} (hk : k < M.length) (hl : xs.length = n) (hn : ∀ i ∈ M, i < n) (h : Writ M n bits k xs) : Writ M n bits (k + 1) (xs.set (M.getD k 0) (some (bits.testBit k))) := by
  have hmk : M.getD k 0 ∈ M := by rw [List.getD_eq_getElem?_getD, List.getElem?_eq_getElem hk]; exact List.getElem_mem hk
  have hx : M.getD k 0 < xs.length := by rw [hl]; exact hn _ hmk
  refine ⟨fun q hq => ?_, fun j hj hjm => ?_⟩
  · rw [getV_set hx]
    by_cases e : q = k
    · subst e; rw [if_pos rfl]
    · have hq' : q < k := by omega
      have hne : ¬ M.getD q 0 = M.getD k 0 := fun e' => by
        rw [List.getD_eq_getElem?_getD, List.getD_eq_getElem?_getD, List.getElem?_eq_getElem hk, List.getElem?_eq_getElem (by omega : q < M.length)] at e'
        exact e ((List.getElem_inj hM).1 e')
      rw [if_neg hne]
      exact h.1 q hq'
  · rw [getV_set hx, if_neg (fun e => hjm (by rw [e]; exact hmk))]
    exact h.2 j hj hjm
set_option maxHeartbeats 3200000 in
set_option maxRecDepth 100000 in
theorem consistent_any {n : Nat} {fs : List Fm} (S : Tr.Sys n fs) (s : Nat) (hs : s < 4096) (hsn : ∀ i ∈ memL s, i < n) (w : World) (A : Option Addr) (c : Nat) (hC : Kd.C kF w A n fs) :
    Calls Tryz.prog 46 #[.slice A n c, .int .i64 (s : Nat)] w (BoolPost (holP fs (memL s)) w) := by
  have n10 : n ≤ 10 := S.n10
  have n0 : (0 : Int) ≤ (n : Int) := by omega
  have HMEM := Aside0.mk (fun w1 => members_any s w1 hs)
  have HND := Aside0.mk (memL_nodup s)
  have HREP := Aside0.mk (fun w1 => repeat_c (some false) n n10 w1)
  have HMN := Aside0.mk hsn
  have HML := Aside0.mk (memL_len s)
  have HC := Aside0.mk hC
  have HS := Aside0.mk S
  have e1 : strV [some false] = ⟨#[48]⟩ := rfl
  rw [e1] at HREP
  have hcb := fun (w1 : World) (x : List T3) => print_bytes (P := Tryz.prog) 9 87 5 Tryz.underlying9 Tryz.underlying87 Tryz.underlying5 (strV x) w1
  have hmf : ∀ (fn : Fn) (first cap : Array Value) (w : World), (Instr.makeFunc fn first cap).run Tryz.prog w = .ok (.func fn first cap) w := fun _ _ _ _ => rfl
  clear hC S hs hsn e1
  generalize memL s = M at *
  obtain ⟨N, hN⟩ : ∃ N, N = 2 ^ M.length := ⟨_, rfl⟩
  have HN := Aside0.mk hN
  have hN12 : N ≤ 4096 := by rw [hN]; exact (Nat.pow_le_pow_right (by decide) HML.out : 2 ^ M.length ≤ 2 ^ 12)
  have hsh : wrap64 ((2 : Int) ^ min M.length 64) = (N : Int) := by
    rw [Nat.min_eq_left (by have := HML.out; omega), wr_pow _ (by have := HML.out; omega), hN]
  have hsz : (strV (List.replicate n (some false))).size = n := by rw [strV_size, List.length_replicate]
  clear hN
  go_enter Tryz.func46, Tryz.ntmps46
  go_wp2_with (first | (go_at_call 43; refine (HMEM.out _).mono ?_; rintro e w1 ⟨v1, rfl, hR, hb⟩; obtain ⟨Am, cm, rfl, hcm, hCm⟩ := Kd.R_reads hR; rw [ints_length] at hCm hcm ⊢; have HCM := Aside0.mk hCm; have HBS := Aside0.mk (Blk.later (Blk.new w 47 #[.slice A n c]) hb); have cs1 : w1.cell? ⟨w.heap.size, 0, none⟩ = some (.slice A n c) := HBS.out.cell 0; have HB := Aside0.mk (below_then (below_alloc (Below.refl _ _) _) (below_alloc (Below.refl _ _) _).size hb); clear hR hCm hb) | (go_at_call 28; refine (HREP.out _).mono ?_; rintro e w2 ⟨rfl, hb2⟩; clear cs1; have HCM2 := Aside0.mk (Kd.C_below HCM.out hb2); have HBS2 := Aside0.mk (Blk.later HBS.out hb2); have HB2 := Aside0.mk (below_then HB.out HB.out.size hb2); clear hb2))
  have hbr := BRow.new w2 (List.replicate n (some false))
  have hbw : Below w2.heap.size w2 (Lib.bytesWorld w2 5 (strV (List.replicate n (some false)))) := bytes_below (Below.refl _ _) (Nat.le_refl _) _ _
  rw [List.length_replicate] at hbr
  generalize Lib.bytesWorld w2 5 (strV (List.replicate n (some false))) = W at *
  generalize grownCap w2 n 0 5 = cap at *
  have hal : Below W.heap.size W (W.alloc (.cells #[.slice (some ⟨w2.heap.size, 0, none⟩) n cap] 87)) := below_alloc (Below.refl _ _) _
  have HBV3 := Aside0.mk (Blk.new W 87 #[.slice (some ⟨w2.heap.size, 0, none⟩) n cap])
  have HBB3 := Aside0.mk (hbr.later hal)
  have HB3 := Aside0.mk (below_then hbw hbw.size hal)
  have HG2 := Aside0.mk hbw.size
  have HNE := Aside0.mk (show w2.heap.size ≠ W.heap.size from by have := hbr.lt; omega)
  clear hbr hbw hal HB HBS HCM HREP HMEM
  generalize W.alloc (.cells #[.slice (some ⟨w2.heap.size, 0, none⟩) n cap] 87) = W0 at *
  rw [hsh]
  clear hsh
  obtain ⟨gb, hgb⟩ : ∃ gb, w2.heap.size = gb := ⟨_, rfl⟩
  have HGB := Aside0.mk hgb
  obtain ⟨gv, hgv⟩ : ∃ gv, W.heap.size = gv := ⟨_, rfl⟩
  rw [hgb] at HBV3 HBB3 HNE ⊢
  rw [hgv] at HBV3 HG2 HNE ⊢
  clear hgb hgv
  go_loopw [19] (fun v wr => ∃ (b : Nat) (xs : List T3), b ≤ N ∧ v = .int .i64 (b : Int) ∧ Aside0 (∀ q, q < b → tryP fs M q = false) ∧ Aside0 (Blk wr gv 87 #[.slice (some ⟨gb, 0, none⟩) n cap]) ∧ Aside0 (BRow wr gb n xs) ∧ Aside0 (Below w2.heap.size w2 wr) ∧ Aside0 (∀ j, j < n → j ∉ M → getV xs j = some false)) (fun v _ => N - (intOf v).toNat)
  case atStart => exact ⟨0, List.replicate n (some false), by omega, rfl, ⟨fun q hq => absurd hq (by omega)⟩, HBV3, HBB3, HB3, ⟨fun j hj _ => by simp [getV, hj]⟩⟩
  case round =>
    clear HBV3 HBB3 HB3
    obtain ⟨b, xs, hb, rfl, HT, HBV, HBB, HB, HX⟩ := hrel
    have b0 : (0 : Int) ≤ (b : Int) := by omega
    by_cases hbN : b < N
    · have hbN' : (b : Int) < (N : Int) := by omega
      go_wp2_with fail
      obtain ⟨wo, rfl⟩ : ∃ wo : World, wo = wr := ⟨_, rfl⟩
      go_loopw [24] (fun v wi => ∃ (k : Nat) (xs : List T3), k ≤ M.length ∧ v = .int .i64 (k : Int) ∧ Aside0 (Writ M n b k xs) ∧ Aside0 (Blk wi gv 87 #[.slice (some ⟨gb, 0, none⟩) n cap]) ∧ Aside0 (BRow wi gb n xs) ∧ Aside0 (Below w2.heap.size w2 wi)) (fun v _ => M.length - (intOf v).toNat)
      case atStart => exact ⟨0, xs, by omega, rfl, ⟨⟨fun q hq => absurd hq (by omega), HX.out⟩⟩, HBV, HBB, HB⟩
      case round =>
        clear HBV HBB HB HX
        obtain ⟨k, xs, hk, rfl, HW, HBV, HBB, HB⟩ := hrel
        have k0 : (0 : Int) ≤ (k : Int) := by omega
        by_cases hkM : k < M.length
        · have hkM' : (k : Int) < (M.length : Int) := by omega
          obtain ⟨ad, rfl, hcell⟩ := Kd.at_int (Kd.C_below HCM2.out HB.out) (k : Int) k0 hkM'
          rw [rd_ints, Int.toNat_natCast] at hcell
          have hmem : M.getD k 0 ∈ M := by rw [List.getD_eq_getElem?_getD, List.getElem?_eq_getElem hkM]; exact List.getElem_mem hkM
          have hxn := HMN.out _ hmem
          have HW2 := Aside0.mk (writ_set HND.out hkM HBB.out.len HMN.out HW.out)
          have hbit := b_bit b k (by omega)
          have HM12 := Aside0.mk (HML.out)
          clear hmem
          generalize M.getD k 0 = x at *
          have x0 : (0 : Int) ≤ (x : Int) := by omega
          have xn : (x : Int) < (n : Int) := by omega
          have cv := HBV.out.cell 0
          have cb := HBB.out.cell x hxn
          have fb := HBB.out.frozen x hxn
          have HP := Aside0.mk (HBB.out.set_ x hxn (some (b.testBit k)))
          have hk12 : k ≤ 12 := by have := HM12.out; omega
          generalize hbt : b.testBit k = t at *
          have cv' : wr.cell? ⟨gv, 0, none⟩ = some (.slice (some ⟨gb, 0, none⟩) n cap) := cv
          clear cv
          have HBV2 := Aside0.mk (fun u => (HBV.out.far (p := ⟨gb, x, none⟩) (fun e => HNE.out e.symm) u).drew)
          have HB3 := Aside0.mk (fun u => below_drew (HB.out.setCell (p := ⟨gb, x, none⟩) (Nat.le_of_eq HGB.out) u))
          clear hbt
          cases t
          · rw [if_neg (by simp)] at hbit
            go_wp2_with fail
            go_region
            go_wp2_with fail
            go_roundw
            case rel => exact ⟨k + 1, _, by omega, by go_num, HW2, ⟨HBV2.out _⟩, ⟨HP.out.drew⟩, ⟨HB3.out _⟩⟩
            case measure => simp [intOf]; omega
          · rw [if_pos rfl] at hbit
            go_wp2_with fail
            go_region
            go_wp2_with fail
            go_roundw
            case rel => exact ⟨k + 1, _, by omega, by go_num, HW2, ⟨HBV2.out _⟩, ⟨HP.out.drew⟩, ⟨HB3.out _⟩⟩
            case measure => simp [intOf]; omega
        · obtain rfl : k = M.length := by omega
          have hcx := contains_any wr _ _ _ _ (cons1_p HS.out wr A c w.heap.size gv gb cap xs (Kd.C_below HC.out (below_then HB2.out HB2.out.size HB.out)) (HBS2.out.later HB.out) HBV.out HBB.out) Am cm (ints M) (fun y hy => by
            obtain ⟨i, hi, rfl⟩ := List.mem_map.1 hy
            exact ⟨i, HMN.out i hi, rfl⟩) (by rw [ints_length]; exact Kd.C_below HCM2.out HB.out)
          rw [writ_try HS.out HND.out HMN.out HW.out, ints_length] at hcx
          have HCX := Aside0.mk hcx
          clear hcx
          cases ht : tryP fs M b
          · rw [ht] at HCX
            have HT2 := Aside0.mk (show ∀ q, q < b + 1 → tryP fs M q = false from fun q hq => by
              rcases Nat.lt_or_ge q b with h | h
              · exact HT.out q h
              · have : q = b := by omega
                subst this; exact ht)
            clear ht
            go_wp2_with (first | (go_at_call 42; refine HCX.out.mono ?_; rintro e w3 ⟨rfl, hb3⟩; have HBV3 := Aside0.mk (HBV.out.later hb3); have HBB3 := Aside0.mk (HBB.out.later hb3); have HB3 := Aside0.mk (below_then HB.out HB.out.size hb3); clear hb3))
            go_roundw
            case rel => exact ⟨b + 1, xs, by omega, by go_num, HT2, HBV3, HBB3, HB3, ⟨HW.out.2⟩⟩
            case measure => simp [intOf]; omega
          · rw [ht] at HCX
            have HR := Aside0.mk (show holP fs M = true by
              unfold holP
              rw [List.any_eq_true]
              exact ⟨b, List.mem_range.2 (by rw [← HN.out]; exact hbN), ht⟩)
            clear ht
            go_wp2_with (first | (go_at_call 42; refine HCX.out.mono ?_; rintro e w3 ⟨rfl, hb3⟩; have HB3 := Aside0.mk (below_then HB.out HB.out.size hb3); clear hb3))
            go_ret
            exact ⟨by rw [HR.out]; rfl, below_then HB2.out HB2.out.size HB3.out⟩
    · obtain rfl : N = b := by omega
      have HR := Aside0.mk (show holP fs M = false by
        unfold holP
        rw [List.any_eq_false]
        intro q hq
        rw [HT.out q (by have := List.mem_range.1 hq; rw [HN.out]; exact this)]
        simp)
      go_wp2_with fail
      go_ret
      exact ⟨by rw [HR.out]; rfl, below_then HB2.out HB2.out.size HB.out⟩
end Go.Proofs.YtijaefmaceolbaaGreatDoor.Im

namespace Go.Proofs.YtijaefmaceolbaaGreatDoor.Im
open Go.RowKit Go.Proofs.YtijaefmaceolbaaGreatDoorW.PrintWords Go.Proofs.YtijaefmaceolbaaGreatDoorW.PrintLast Go.Proofs.YtijaefmaceolbaaGreatDoorW.PrintMore Go.Proofs.YtijaefmaceolbaaGreatDoor.Tr
set_option linter.unusedVariables false
set_option linter.unusedSimpArgs false
def lessB : List Int → List Int → Bool
  | [], ys => !ys.isEmpty
  | _ :: _, [] => false
  | x :: xs, y :: ys => if x = y then lessB xs ys else decide (x < y)
theorem lessB_self (s : List Int) : lessB s s = false := by
  induction s with
  | nil => rfl
  | cons x s ih => simp only [lessB, if_true, ih]
theorem lessB_trans : ∀ (a b c : List Int), lessB a b = true → lessB b c = true → lessB a c = true
  | [], [], c, h, h' => by simp [lessB] at h
  | [], _ :: _, [], h, h' => by simp [lessB] at h'
  | [], _ :: _, _ :: _, h, h' => rfl
  | _ :: _, [], c, h, h' => by simp [lessB] at h
  | _ :: _, _ :: _, [], h, h' => by simp [lessB] at h'
  | x :: a, y :: b, z :: c, h, h' => by
    rw [lessB] at h h' ⊢
    by_cases h1 : x = y
    · rw [if_pos h1] at h
      subst h1
      by_cases h2 : x = z
      · rw [if_pos h2] at h' ⊢
        exact lessB_trans a b c h h'
      · rw [if_neg h2] at h' ⊢
        exact h'
    · rw [if_neg h1, decide_eq_true_eq] at h
      by_cases h2 : y = z
      · subst h2
        rw [if_neg h1, decide_eq_true_eq]
        exact h
      · rw [if_neg h2, decide_eq_true_eq] at h'
        rw [if_neg (by omega), decide_eq_true_eq]
        omega
theorem lessB_anti : ∀ (a b : List Int), lessB a b = false → lessB b a = false → a = b
  | [], [], _, _ => rfl
  | [], _ :: _, h, _ => by simp [lessB] at h
  | _ :: _, [], _, h => by simp [lessB] at h
  | x :: a, y :: b, h, h' => by
    rw [lessB] at h h'
    by_cases h1 : x = y
    · subst h1
      rw [if_pos rfl] at h h'
      rw [lessB_anti a b h h']
    · rw [if_neg h1, decide_eq_false_iff_not] at h
      rw [if_neg (fun e => h1 e.symm), decide_eq_false_iff_not] at h'
      omega
theorem ints_inj {a b : List Nat} (h : ints a = ints b) : a = b := by
  have e : (ints a).map Int.toNat = (ints b).map Int.toNat := by rw [h]
  simpa [ints, List.map_map, Function.comp_def] using e
theorem cmpL_less : ∀ (a b : List Int), decide (cmpL a b < 0) = lessB a b
  | [], [] => rfl
  | [], _ :: _ => rfl
  | _ :: _, [] => rfl
  | x :: a, y :: b => by
    rw [cmpL, lessB]
    by_cases h1 : x < y
    · rw [if_pos h1, if_neg (by omega), decide_eq_true h1]; rfl
    · rw [if_neg h1]
      by_cases h2 : y < x
      · rw [if_pos h2, if_neg (by omega), decide_eq_false h1]; rfl
      · rw [if_neg h2, if_pos (by omega)]
        exact cmpL_less a b
theorem cmpL_iff (a b : List Int) : cmpL a b < 0 ↔ lessB a b = true := by rw [← cmpL_less]; simp
theorem minG_spec : ∀ (l : List (List Int)) (m : List Int), (minG m l = m ∨ minG m l ∈ l) ∧ (lessB m (minG m l) = false) ∧ ∀ x ∈ l, lessB x (minG m l) = false
  | [], m => ⟨.inl rfl, lessB_self m, fun x hx => by cases hx⟩
  | y :: l, m => by
    have e : minG m (y :: l) = minG (if cmpL y m < 0 then y else m) l := rfl
    rw [e]
    by_cases h : cmpL y m < 0
    · rw [if_pos h]
      obtain ⟨h1, h2, h3⟩ := minG_spec l y
      refine ⟨.inr (h1.elim (fun e => by rw [e]; simp) (fun hm => List.mem_cons_of_mem _ hm)), ?_, fun x hx => ?_⟩
      · cases hm : lessB m (minG y l) with
        | false => rfl
        | true =>
          have := lessB_trans _ _ _ ((cmpL_iff _ _).1 h) hm
          rw [h2] at this; cases this
      · rcases List.mem_cons.1 hx with rfl | hx
        · exact h2
        · exact h3 x hx
    · rw [if_neg h]
      obtain ⟨h1, h2, h3⟩ := minG_spec l m
      refine ⟨h1.imp id (fun hm => List.mem_cons_of_mem _ hm), h2, fun x hx => ?_⟩
      rcases List.mem_cons.1 hx with rfl | hx
      · cases hm : lessB x (minG m l) with
        | false => rfl
        | true =>
          have hxm : lessB x m = false := by
            cases hh : lessB x m with
            | false => rfl
            | true => exact absurd ((cmpL_iff _ _).2 hh) h
          by_cases he : x = m
          · rw [he, h2] at hm; cases hm
          · have hmx : lessB m x = true := by
              cases hh : lessB m x with
              | true => rfl
              | false => exact absurd (lessB_anti _ _ hxm hh) he
            have := lessB_trans _ _ _ hmx hm
            rw [h2] at this; cases this
      · exact h3 x hx
def IsCore (n : Nat) (fs : List Fm) (c : List Nat) : Prop := ∃ s, MinBad fs n s ∧ c = memL s ∧ ∀ s', MinBad fs n s' → lessB (ints (memL s')) (ints c) = false
theorem IsCore.unique {n : Nat} {fs : List Fm} {c d : List Nat} (h : IsCore n fs c) (k : IsCore n fs d) : c = d := by
  obtain ⟨s, h1, h2, h3⟩ := h
  obtain ⟨t, k1, k2, k3⟩ := k
  have a := h3 t k1
  have b := k3 s h1
  rw [← k2] at a
  rw [← h2] at b
  exact ints_inj (lessB_anti _ _ b a)
theorem core_of_list {n : Nat} {fs : List Fm} {cs : List Nat} (hc : ∀ m, m ∈ cs ↔ MinBad fs n m) (h0 : 0 < cs.length) : ∃ c, minX (cs.map fun s => ints (memL s)) (cs.map fun s => ints (memL s)).length = ints c ∧ IsCore n fs c := by
  match cs, h0 with
  | a :: l, _ =>
    have e : minX ((a :: l).map fun s => ints (memL s)) ((a :: l).map fun s => ints (memL s)).length = minG (ints (memL a)) (l.map fun s => ints (memL s)) := by
      unfold minX
      rw [List.take_of_length_le (Nat.le_refl _)]
      rfl
    rw [e]
    obtain ⟨h1, h2, h3⟩ := minG_spec (l.map fun s => ints (memL s)) (ints (memL a))
    have hall : ∀ s, MinBad fs n s → lessB (ints (memL s)) (minG (ints (memL a)) (l.map fun s => ints (memL s))) = false := fun s hs => by
      rcases List.mem_cons.1 ((hc s).2 hs) with rfl | hm
      · exact h2
      · exact h3 _ (List.mem_map.2 ⟨s, hm, rfl⟩)
    rcases h1 with h1 | h1
    · exact ⟨memL a, h1, a, (hc a).1 (by simp), rfl, fun s hs => by rw [← h1]; exact hall s hs⟩
    · obtain ⟨s, hs, es⟩ := List.mem_map.1 h1
      exact ⟨memL s, es.symm, s, (hc s).1 (by simp [hs]), rfl, fun s' hs' => by rw [es]; exact hall s' hs'⟩
noncomputable def coreV (n : Nat) (fs : List Fm) : Option (List Nat) := open Classical in if h : ∃ c, IsCore n fs c then some (Classical.choose h) else none
theorem coreV_some {n : Nat} {fs : List Fm} {c : List Nat} (h : IsCore n fs c) : coreV n fs = some c := by
  have hx : ∃ c, IsCore n fs c := ⟨c, h⟩
  unfold coreV
  rw [dif_pos hx, (Classical.choose_spec hx).unique h]
theorem coreV_none {n : Nat} {fs : List Fm} (h : ∀ s, ¬ MinBad fs n s) : coreV n fs = none := by
  unfold coreV
  rw [dif_neg]
  rintro ⟨c, s, hs, _⟩
  exact h s hs
theorem clo_iff {n : Nat} {fs : List Fm} (S : Tr.Sys n fs) {s : Nat} (hs : s < 4096) (hsn : s < 2 ^ n) : ((ints (memL s)).any fun x => leavesB n (sgF fs x.toNat) s) = false ↔ Clo fs n s := by
  rw [List.any_eq_false]
  have hocc : ∀ i j, ((sgF fs i j).1 || (sgF fs i j).2) = occ j (fmA fs i) := fun i j => by
    have := occ_sign j (fmA fs i) false false
    rw [← this]
    show ((false || evn j (fmA fs i) false false) || (false || odn j (fmA fs i) false false)) = _
    rw [Bool.false_or, Bool.false_or]
  constructor
  · intro h i hi his j hj
    have hm : (i : Int) ∈ ints (memL s) := List.mem_map.2 ⟨i, (memL_mem hs i).2 his, rfl⟩
    have := h _ hm
    rw [Int.toNat_natCast, Bool.not_eq_true] at this
    unfold leavesB at this
    rw [List.any_eq_false] at this
    have hjn := occ_low (fmA_low S i) hj
    have h2 := this j (List.mem_range.2 hjn)
    unfold leavB at h2
    rw [hocc, hj, Bool.true_and] at h2
    simpa using h2
  · intro h x hx
    obtain ⟨i, hi, rfl⟩ := List.mem_map.1 hx
    have his := (memL_mem hs i).1 hi
    rw [Int.toNat_natCast, Bool.not_eq_true]
    refine leaves_no fun j hj => ?_
    unfold leavB
    rw [hocc]
    cases ho : occ j (fmA fs i) with
    | false => rfl
    | true =>
      have hin : i < n := by
        rcases Nat.lt_or_ge i n with h' | h'
        · exact h'
        · rw [Nat.testBit_lt_two_pow (Nat.lt_of_lt_of_le hsn (Nat.pow_le_pow_right (by decide) h'))] at his; cases his
      rw [h i hin his j ho]; rfl
theorem andN_sub (a b : Nat) : (andN a b == 0) = true ↔ subN a b := by
  rw [beq_iff_eq]
  constructor
  · intro h j hj
    have := andN_bit a b j
    rw [h, hj, Nat.zero_testBit, Bool.true_and] at this
    simpa using this.symm
  · intro h
    apply Nat.eq_of_testBit_eq
    intro i
    rw [andN_bit, Nat.zero_testBit]
    cases ha : a.testBit i with
    | false => rfl
    | true => rw [h i ha]; rfl
theorem mem_n {n s : Nat} (hs : s < 4096) (hsn : s < 2 ^ n) : ∀ i ∈ memL s, i < n := fun i hi => by
  have his := (memL_mem hs i).1 hi
  rcases Nat.lt_or_ge i n with h' | h'
  · exact h'
  · rw [Nat.testBit_lt_two_pow (Nat.lt_of_lt_of_le hsn (Nat.pow_le_pow_right (by decide) h'))] at his; cases his
theorem hol_iff {n : Nat} {fs : List Fm} {s : Nat} (hs : s < 4096) (hsn : s < 2 ^ n) : holP fs (memL s) = true ↔ Hol fs n s := holP_iff (memL_nodup s) (fun i => memL_mem hs i) hsn
def CoresP (n : Nat) (fs : List Fm) (s : Nat) (cs : List Nat) : Prop := (∀ m, m ∈ cs ↔ m < s ∧ MinBad fs n m) ∧ cs.length ≤ s
theorem cores_skip {n : Nat} {fs : List Fm} {s : Nat} {cs : List Nat} (h : CoresP n fs s cs) (hb : ¬ MinBad fs n s) : CoresP n fs (s + 1) cs :=
  ⟨fun m => ⟨fun hm => ⟨by have := ((h.1 m).1 hm).1; omega, ((h.1 m).1 hm).2⟩, fun ⟨h1, h2⟩ => (h.1 m).2 ⟨by
    rcases Nat.eq_or_lt_of_le (Nat.le_of_lt_succ h1) with e | e
    · subst e; exact absurd h2 hb
    · exact e, h2⟩⟩, by have := h.2; omega⟩
theorem cores_add {n : Nat} {fs : List Fm} {s : Nat} {cs : List Nat} (h : CoresP n fs s cs) (hb : MinBad fs n s) : CoresP n fs (s + 1) (cs ++ [s]) :=
  ⟨fun m => by
    rw [List.mem_append, List.mem_singleton, h.1 m]
    constructor
    · rintro (⟨h1, h2⟩ | rfl)
      · exact ⟨by omega, h2⟩
      · exact ⟨by omega, hb⟩
    · rintro ⟨h1, h2⟩
      rcases Nat.eq_or_lt_of_le (Nat.le_of_lt_succ h1) with e | e
      · exact .inr e
      · exact .inl ⟨e, h2⟩, by rw [List.length_append]; have := h.2; simp; omega⟩
end Go.Proofs.YtijaefmaceolbaaGreatDoor.Im

namespace Go.Proofs.YtijaefmaceolbaaGreatDoor.Im
open Go.RowKit Go.Proofs.YtijaefmaceolbaaGreatDoorW.PrintWords Go.Proofs.YtijaefmaceolbaaGreatDoorW.PrintLast Go.Proofs.YtijaefmaceolbaaGreatDoorW.PrintMore Go.Proofs.YtijaefmaceolbaaGreatDoor.Tr
set_option linter.unusedVariables false
set_option linter.unusedSimpArgs false
def memI (s : Nat) : List Int := ints (memL s)
theorem members_gp (s : Nat) (hs : s < 4096) : Gives (fun k => truth_members.f k s) (memI s) :=
  ⟨13, fun k hk => at_rounds (truth_members.mono (s : Int)) hk (members_f s hs)⟩
theorem lists_l0 (cs : List Nat) (hc : ∀ c ∈ cs, c < 4096) (hl : cs.length ≤ 5000) : ∀ (d i : Nat), i + d = cs.length → Gives (fun k => truth_lists.l0 k ((cs.take i).map memI) (ints cs) (cs.length : Nat) i) (cs.map memI)
  | 0, i, h => Gives.now fun k => by
    obtain rfl : i = cs.length := by omega
    simp only [truth_lists.l0]
    rw [if_neg (by omega), List.take_length]
  | d + 1, i, h => by
    have hi : i < cs.length := by omega
    have hm := members_gp (cs.getD i 0) (hc _ (by rw [List.getD_eq_getElem?_getD, List.getElem?_eq_getElem hi]; exact List.getElem_mem hi))
    refine Gives.step2 hm (lists_l0 cs hc hl d (i + 1) (by omega)) fun k hk hk2 => ?_
    simp only [truth_lists.l0]
    have e : (cs.take i).map memI ++ [memI (cs.getD i 0)] = (cs.take (i + 1)).map memI := by
      rw [List.take_succ_eq_append_getElem hi, List.map_append]
      simp [hi]
    rw [if_pos (by omega), if_pos (by omega), if_pos (by rw [ints_length]; omega), rd_ints, hk, Option.bind_some, if_pos (by rw [List.length_map, List.length_take]; omega), e, wr_succ i (by omega)]
    exact hk2
def ListsPost (cs : List Nat) (w : World) (e : Ending) (w' : World) : Prop :=
  ∃ A c, e = .returned (.slice A cs.length c) ∧ cs.length ≤ c ∧ Kd.C (Kd.slice 3 (Kd.int .i64)) w' A cs.length (cs.map memI) ∧ Below w.heap.size w w'
theorem lists_any (cs : List Nat) (hc : ∀ c ∈ cs, c < 4096) (hl : cs.length ≤ 5000) (w : World) (A : Option Addr) (c : Nat) (hC : Kd.C (Kd.int .i64) w A cs.length (ints cs)) (hcc : cs.length ≤ c) :
    Calls Tryz.prog 49 #[.slice A cs.length c] w (ListsPost cs w) := by
  obtain ⟨k, hk⟩ : ∃ k, truth_lists.f k (ints cs) = some (cs.map memI) := by
    obtain ⟨k0, h⟩ := lists_l0 cs hc hl cs.length 0 (by omega)
    refine ⟨k0, ?_⟩
    have := h k0 (Nat.le_refl _)
    unfold truth_lists.f
    rw [ints_length]
    simpa using this
  have h := truth_lists.calls k A c (ints cs) _ w (by rw [ints_length]; exact hC) (by rw [ints_length]; exact hcc) hk
  rw [ints_length] at h
  refine h.mono fun e w' ⟨v, h1, h2, h3⟩ => ?_
  obtain ⟨A2, c2, rfl, hc2, hC2⟩ := Kd.S_reads h2
  rw [List.length_map] at h1 hc2 hC2
  exact ⟨A2, c2, h1, hc2, hC2, h3⟩
def OutL (r : List Nat × Int) (w : World) (e : Ending) (w' : World) : Prop :=
  ∃ A c, e = .returned (.tuple #[.slice A r.1.length c, .int .i64 r.2]) ∧ r.1.length ≤ c ∧ Kd.C (Kd.int .i64) w' A r.1.length (ints r.1) ∧ Below w.heap.size w w'
noncomputable def coreO (l : List (List UInt8)) : List Nat × Int :=
  if sysE l = 0 then (match coreV l.length (sysF l) with | some c => (c, 0) | none => ([], 10)) else ([], sysE l)
theorem shl_n (n : Nat) (h : n ≤ 12) : wrap64 ((2 : Int) ^ min n 64) = ((2 ^ n : Nat) : Int) := by
  rw [Nat.min_eq_left (by omega), wr_pow _ (by omega)]
structure CoreB (w0 : World) (n : Nat) (fs : List Fm) (sl : Value) (gs ga gm : Nat) (R : Nat → Nat) (w : World) : Prop where
  bs : Blk w gs 47 #[sl]
  ba : Blk w ga 62 #[.slice (some ⟨gm, 0, none⟩) n n]
  M : ArcM n fs gm R w
  bel : Below w0.heap.size w0 w
theorem CoreB.later {w0 : World} {n : Nat} {fs : List Fm} {sl : Value} {gs ga gm : Nat} {R : Nat → Nat} {w w' : World} (h : CoreB w0 n fs sl gs ga gm R w) (k : Below w.heap.size w w') : CoreB w0 n fs sl gs ga gm R w' :=
  ⟨h.bs.later k, h.ba.later k, h.M.later k, below_then h.bel h.bel.size k⟩
theorem CoreB.row {w0 : World} {n : Nat} {fs : List Fm} {sl : Value} {gs ga gm : Nat} {R : Nat → Nat} {w w' : World} (h : CoreB w0 n fs sl gs ga gm R w) {ok : Nat → Prop} {v : Value} {xs : List Int} (hr : Kd.R (Kd.int .i64) 3 w w0.heap.size ok v xs) (k : w.grownBy w' v.ownBlock) : CoreB w0 n fs sl gs ga gm R w' :=
  ⟨h.bs.gb k (Kd.R_ne hr h.bs (by decide)), h.ba.gb k (Kd.R_ne hr h.ba (by decide)), ⟨h.M.bm.gb k (Kd.R_ne hr h.M.bm (by decide)), fun j hj => (h.M.br j hj).gb k (Kd.R_ne hr (h.M.br j hj) (by decide))⟩, h.bel.grown k h.bel.size (fun i hi => Kd.R_base hr i hi)⟩
theorem core_tail {w1 W : World} {n s gset : Nat} {fs : List Fm} {sl : Value} {gs ga gm : Nat} {R : Nat → Nat} {v7 : Value} {cs : List Nat} (h1 : CoreB w1 n fs sl gs ga gm R W) (h3 : Kd.R (Kd.int .i64) 3 W w1.heap.size (fun k => k ≠ gset) v7 (ints cs)) :
    CoreB w1 n fs sl gs ga gm R (W.alloc (.cells #[.int .i64 ((s : Int) + 1)] 3)) ∧ Blk (W.alloc (.cells #[.int .i64 ((s : Int) + 1)] 3)) W.heap.size 3 #[.int .i64 ((s + 1 : Nat) : Int)] ∧
      Kd.R (Kd.int .i64) 3 (W.alloc (.cells #[.int .i64 ((s : Int) + 1)] 3)) w1.heap.size (fun k => k ≠ W.heap.size) v7 (ints cs) ∧ w1.heap.size ≤ W.heap.size :=
  ⟨h1.later (below_alloc (Below.refl _ _) _), by rw [show ((s + 1 : Nat) : Int) = (s : Int) + 1 by omega]; exact Blk.new _ _ _, Kd.R_alloc (Kd.R_mono (Kd.R_bound h3) (fun k hk => by have := hk.2.2.1; omega)) _, h1.bel.size⟩
set_option maxHeartbeats 3200000 in
set_option maxRecDepth 100000 in
theorem core_good (l : List (List UInt8)) (h0 : sysE l = 0) (w : World) (A : Option Addr) (c : Nat) (hr : Kd.C Kd.string w A l.length (l.map strL)) :
    Calls Tryz.prog 23 #[.slice A l.length c] w (OutL (coreO l) w) := by
  have S := sys_ok h0
  have HO := Aside0.mk (of_good h0 w A c hr)
  have HR := Aside0.mk (show coreO l = (match coreV l.length (sysF l) with | some c => (c, 0) | none => ([], 10)) by unfold coreO; rw [if_pos h0])
  obtain ⟨n, hn⟩ : ∃ n, l.length = n := ⟨_, rfl⟩
  rw [hn] at HO S HR ⊢
  generalize sysF l = fs at *
  have n10 : n ≤ 10 := S.n10
  have n0 : (0 : Int) ≤ (n : Int) := by omega
  have HS := Aside0.mk S
  have HA := Aside0.mk (fun (w1 : World) (A : Option Addr) (c : Nat) (hC : Kd.C kF w1 A n fs) (hc : n ≤ c) => arcs_any S w1 A c hC hc)
  obtain ⟨N, hN⟩ : ∃ N, N = 2 ^ n := ⟨_, rfl⟩
  have hsh : wrap64 ((2 : Int) ^ min n 64) = (N : Int) := by rw [hN]; exact shl_n n (by omega)
  have hsh2 : wrap64 ((2 : Int) ^ n) = (N : Int) := by rw [hN]; exact wr_pow n (by omega)
  have hN12 : N ≤ 1024 := by rw [hN]; exact (Nat.pow_le_pow_right (by decide) n10 : 2 ^ n ≤ 2 ^ 10)
  have hN1 : 1 ≤ N := by rw [hN]; exact Nat.two_pow_pos n
  have HN := Aside0.mk hN
  have hmf : ∀ (fn : Fn) (first cap : Array Value) (w : World), (Instr.makeFunc fn first cap).run Tryz.prog w = .ok (.func fn first cap) w := fun _ _ _ _ => rfl
  clear hr h0 hn S hN
  go_enter Tryz.func23, Tryz.ntmps23
  go_wp2_with (first
    | (go_at_call 27; refine HO.out.mono ?_; rintro e w1 ⟨A1, c1, hc1, rfl, hC, hb⟩; have HC := Aside0.mk hC; have HB := Aside0.mk hb; have HCC := Aside0.mk hc1; clear hC hb hc1)
    | (go_at_call 41; refine (HA.out _ _ _ (Kd.C_below HC.out (below_alloc (Below.refl _ _) _)) HCC.out).mono ?_; rintro e w2 ⟨gm, R, rfl, hM, hb2⟩; have HM := Aside0.mk hM; have HB2 := Aside0.mk hb2; clear hM hb2))
  have hbx : Below w2.heap.size w2 (w2.alloc (.cells #[.slice (some ⟨gm, 0, none⟩) n n] 62)) := below_alloc (Below.refl _ _) _
  have hby : Below (w2.alloc (.cells #[.slice (some ⟨gm, 0, none⟩) n n] 62)).heap.size (w2.alloc (.cells #[.slice (some ⟨gm, 0, none⟩) n n] 62)) ((w2.alloc (.cells #[.slice (some ⟨gm, 0, none⟩) n n] 62)).alloc (.cells #[.int .i64 1] 3)) := below_alloc (Below.refl _ _) _
  have hb12 : Below w1.heap.size w1 w2 := below_then (below_alloc (Below.refl _ _) _) (below_alloc (Below.refl _ _) _).size HB2.out
  have HCB := Aside0.mk (show CoreB w1 n fs (.slice A1 n c1) w1.heap.size w2.heap.size gm R ((w2.alloc (.cells #[.slice (some ⟨gm, 0, none⟩) n n] 62)).alloc (.cells #[.int .i64 1] 3)) from
    ⟨(((Blk.new w1 47 #[.slice A1 n c1]).later HB2.out).later hbx).later hby, (Blk.new _ _ _).later hby, (HM.out.later hbx).later hby, below_then (below_then hb12 hb12.size hbx) (below_then hb12 hb12.size hbx).size hby⟩)
  have HBT := Aside0.mk (show Blk ((w2.alloc (.cells #[.slice (some ⟨gm, 0, none⟩) n n] 62)).alloc (.cells #[.int .i64 1] 3)) (w2.heap.size + 1) 3 #[.int .i64 ((1 : Nat) : Int)] from Blk.new' (by simp))
  have HW := Aside0.mk (show w1.heap.size ≤ w2.heap.size + 1 from by have := hb12.size; omega)
  clear hbx hby hb12 HM HB2
  generalize (w2.alloc (.cells #[.slice (some ⟨gm, 0, none⟩) n n] 62)).alloc (.cells #[.int .i64 1] 3) = W at *
  generalize w2.heap.size = ga at *
  generalize hgs : w1.heap.size = gs at *
  rw [← hgs] at HW
  have HGS := Aside0.mk hgs
  clear hgs
  go_loopg [7, 8] (N + 1) (fun kq v7 v8 wr => ∃ (s gset : Nat) (cs : List Nat), v8 = .pointer (some ⟨gset, 0, none⟩) ∧ Aside0 (1 ≤ s ∧ s ≤ N) ∧ Aside0 (N - s < kq) ∧ Aside0 (CoresP n fs s cs) ∧ Aside0 (CoreB w1 n fs (.slice A1 n c1) gs ga gm R wr) ∧ Aside0 (Blk wr gset 3 #[.int .i64 (s : Nat)]) ∧ Aside0 (Kd.R (Kd.int .i64) 3 wr w1.heap.size (fun k => k ≠ gset) v7 (ints cs)) ∧ Aside0 (w1.heap.size ≤ gset))
  case atStart => exact ⟨1, ga + 1, [], rfl, ⟨Nat.le_refl _, hN1⟩, ⟨by omega⟩, ⟨fun m => ⟨fun h => by (cases h), fun ⟨h1, h2⟩ => absurd (by omega) h2.1.1⟩, Nat.zero_le _⟩, HCB, HBT, ⟨Kd.R_nil _ _ _ _ _⟩, HW⟩
  case round =>
    clear HCB HBT HW
    obtain ⟨s, gset, cs, rfl, HSN, HQ, HCP, HCB, HBT, HRR, HW⟩ := hrel
    obtain ⟨A7, c7, rfl, h7, hC7⟩ := Kd.R_reads HRR.out
    rw [ints_length] at h7 hC7 HRR ⊢
    have HC7 := Aside0.mk hC7
    have H7 := Aside0.mk h7
    have hs1 : (1 : Int) ≤ (s : Int) := by have := HSN.out.1; omega
    have hsN : s ≤ N := HSN.out.2
    have csys : wr.cell? ⟨gs, 0, none⟩ = some (.slice A1 n c1) := HCB.out.bs.cell 0
    have cset : wr.cell? ⟨gset, 0, none⟩ = some (.int .i64 (s : Nat)) := HBT.out.cell 0
    clear hC7 h7
    by_cases hsl : s < N
    · have hslt : decide (s < N) = true := decide_eq_true hsl
      have hslt' : (s : Int) < (N : Int) := by omega
      go_wp2_with fail
      have hs40 : s < 4096 := by omega
      have hsn2 : s < 2 ^ n := by rw [← HN.out]; exact hsl
      have hdr : Below wr.heap.size wr wr.drew := below_drew (Below.refl _ _)
      have HCBd := Aside0.mk (HCB.out.later hdr)
      have HBTd := Aside0.mk (HBT.out.later hdr)
      have HRRd := Aside0.mk (Kd.R_below HRR.out hdr)
      have HMEM := Aside0.mk (fun w1 => members_any s w1 hs40)
      have HMN := Aside0.mk (mem_n hs40 hsn2)
      have HCLO := Aside0.mk (clo_iff HS.out hs40 hsn2)
      have HHOL := Aside0.mk (hol_iff (fs := fs) hs40 hsn2)
      have H2N := Aside0.mk hsn2
      clear hdr hsn2
      go_region
      go_wp2_with fail
      clear csys cset HCB HBT HRR
      refine (HMEM.out _).mono ?_
      rintro e w3 ⟨v3, rfl, hR3, hb3⟩
      obtain ⟨Am, cm, rfl, hcm, hCm⟩ := Kd.R_reads hR3
      have HCB3 := Aside0.mk (HCBd.out.later hb3)
      have HBT3 := Aside0.mk (HBTd.out.later hb3)
      have HRR3 := Aside0.mk (Kd.R_below HRRd.out hb3)
      have hcx := contains_any w3 _ _ _ _ (core1_p n10 s hs40 w3 (.slice A1 n c1) gs ga gm gset R HCB3.out.bs HCB3.out.ba HCB3.out.M HBT3.out) Am cm (ints (memL s)) (fun y hy => by
        obtain ⟨i, hi, rfl⟩ := List.mem_map.1 hy
        exact ⟨i, HMN.out i hi, rfl⟩) hCm
      rw [ints_length] at hcx ⊢
      have HCX := Aside0.mk hcx
      clear hcx hCm hcm hR3 hb3 HCBd HBTd HRRd HMEM
      by_cases hclo : Clo fs n s
      · rw [HCLO.out.2 hclo] at HCX
        go_wp2_with fail
        refine HCX.out.mono ?_
        rintro e w4 ⟨rfl, hb4⟩
        have HCB4 := Aside0.mk (HCB3.out.later hb4)
        have HBT4 := Aside0.mk (HBT3.out.later hb4)
        have HRR4 := Aside0.mk (Kd.R_below HRR3.out hb4)
        have cs4 : w4.cell? ⟨gs, 0, none⟩ = some (.slice A1 n c1) := HCB4.out.bs.cell 0
        have ct4 : w4.cell? ⟨gset, 0, none⟩ = some (.int .i64 (s : Nat)) := HBT4.out.cell 0
        have HCN := Aside0.mk (consistent_any HS.out s hs40 HMN.out w4 A1 c1 (Kd.C_below HC.out HCB4.out.bel))
        clear hb4 HCB3 HBT3 HRR3
        by_cases hhol : Hol fs n s
        · rw [HHOL.out.2 hhol] at HCN
          go_wp2_with fail
          refine HCN.out.mono ?_
          rintro e w5 ⟨rfl, hb5⟩
          have HCB5 := Aside0.mk (HCB4.out.later hb5)
          have HRR5 := Aside0.mk (Kd.R_below HRR4.out hb5)
          have ct5 : w5.cell? ⟨gset, 0, none⟩ = some (.int .i64 (s : Nat)) := (HBT4.out.later hb5).cell 0
          have HP2 := Aside0.mk (cores_skip HCP.out (fun hm => hm.1.2.2.2 hhol))
          have HT := Aside0.mk (core_tail (s := s) HCB5.out HRR5.out)
          clear hb5 ct4 cs4
          go_wp2_with fail
          go_roundg (gk - 1)
          case measure => have := HQ.out; omega
          case rel => exact ⟨s + 1, _, cs, rfl, ⟨by omega, by omega⟩, ⟨by have := HQ.out; omega⟩, HP2, ⟨HT.out.1⟩, ⟨HT.out.2.1⟩, ⟨HT.out.2.2.1⟩, ⟨HT.out.2.2.2⟩⟩
        · have hhf : holP fs (memL s) = false := by
            cases hh : holP fs (memL s) with
            | false => rfl
            | true => exact absurd (HHOL.out.1 hh) hhol
          rw [hhf] at HCN
          clear hhf
          go_wp2_with fail
          refine HCN.out.mono ?_
          rintro e w5 ⟨rfl, hb5⟩
          have HCB5 := Aside0.mk (HCB4.out.later hb5)
          have HBT5 := Aside0.mk (HBT4.out.later hb5)
          have HRR5 := Aside0.mk (Kd.R_below HRR4.out hb5)
          have ct5 : w5.cell? ⟨gset, 0, none⟩ = some (.int .i64 (s : Nat)) := HBT5.out.cell 0
          have hc40 : ∀ c ∈ cs, c < 4096 := fun c hc => by have := ((HCP.out.1 c).1 hc).1; omega
          obtain ⟨A8, c8, e8, h8, hC8⟩ := Kd.R_reads HRR5.out
          rw [ints_length] at e8 h8 hC8
          have HE8 := Aside0.mk e8
          have hcx := contains_any w5 _ _ _ _ (core2_p s hs40 w5 gset HBT5.out) A8 c8 (ints cs) (fun y hy => by
            obtain ⟨i, hi, rfl⟩ := List.mem_map.1 hy
            exact ⟨i, hc40 i hi, rfl⟩) (by rw [ints_length]; exact hC8)
          have hany : (ints cs).any (fun x => andN x.toNat s == 0) = true ↔ ∃ c ∈ cs, subN c s := by
            rw [List.any_eq_true]
            constructor
            · rintro ⟨x, hx, h⟩
              obtain ⟨i, hi, rfl⟩ := List.mem_map.1 hx
              rw [Int.toNat_natCast] at h
              exact ⟨i, hi, (andN_sub i s).1 h⟩
            · rintro ⟨i, hi, h⟩
              exact ⟨(i : Int), List.mem_map.2 ⟨i, hi, rfl⟩, by rw [Int.toNat_natCast]; exact (andN_sub i s).2 h⟩
          rw [ints_length, ← HE8.out] at hcx
          have HCX := Aside0.mk hcx
          have HAN := Aside0.mk hany
          have HSTEP := Aside0.mk (core_step cs HCP.out.1)
          clear hcx hany hb5 e8 h8 hC8 hc40 cs4 ct4
          cases ha : (ints cs).any (fun x => andN x.toNat s == 0) with
          | true =>
            rw [ha] at HCX
            have HP2 := Aside0.mk (cores_skip HCP.out (fun hm => by
              obtain ⟨c, hc, hs⟩ := HAN.out.1 ha
              exact (HSTEP.out.2 hm).2 c hc hs))
            clear ha
            go_wp2_with fail
            refine HCX.out.mono ?_
            rintro e w6 ⟨rfl, hb6⟩
            have HCB6 := Aside0.mk (HCB5.out.later hb6)
            have HRR6 := Aside0.mk (Kd.R_below HRR5.out hb6)
            have ct6 : w6.cell? ⟨gset, 0, none⟩ = some (.int .i64 (s : Nat)) := (HBT5.out.later hb6).cell 0
            have HT := Aside0.mk (core_tail (s := s) HCB6.out HRR6.out)
            clear hb6 ct5
            go_wp2_with fail
            go_roundg (gk - 1)
            case measure => have := HQ.out; omega
            case rel => exact ⟨s + 1, _, cs, rfl, ⟨by omega, by omega⟩, ⟨by have := HQ.out; omega⟩, HP2, ⟨HT.out.1⟩, ⟨HT.out.2.1⟩, ⟨HT.out.2.2.1⟩, ⟨HT.out.2.2.2⟩⟩
          | false =>
            rw [ha] at HCX
            have hmb : MinBad fs n s := HSTEP.out.1 ⟨⟨by omega, H2N.out, hclo, hhol⟩, fun c hc hs => by
              have := HAN.out.2 ⟨c, hc, hs⟩
              rw [ha] at this; cases this⟩
            have HP2 := Aside0.mk (cores_add HCP.out hmb)
            clear ha hmb
            go_wp2_with fail
            refine HCX.out.mono ?_
            rintro e w6 ⟨rfl, hb6⟩
            have HCB6 := Aside0.mk (HCB5.out.later hb6)
            have HBT6 := Aside0.mk (HBT5.out.later hb6)
            have HRR6 := Aside0.mk (Kd.R_below HRR5.out hb6)
            have ct6 : w6.cell? ⟨gset, 0, none⟩ = some (.int .i64 (s : Nat)) := HBT6.out.cell 0
            have HL8 := Aside0.mk (show (ints cs).length ≤ 1024 by rw [ints_length]; have := HCP.out.2; omega)
            have HI8 := Aside0.mk (ints_snoc' cs s)
            clear hb6 ct5
            go_wp2_with (first | ((with_reducible refine gate_builtin (b := .append) (xs := #[.tmp 45, .tmp 47]) rfl ?_); at_builtin; refine Kd.R_append (Kd.int .i64) (w0 := w1) w1.heap.size rfl (.tmp 45) (.tmp 47) 39 3 (.int .i64 0) 8 rfl Tryz.underlying39 info3 rfl (by decide) (by omega) _ (ints cs) (s : Int) [.int .i64 (s : Int)] (fun k => k ≠ gset) (fun _ => False) rfl rfl ?aP (fun _ hk => hk.elim) ?aF ?aO ?aB ?aS ?aL ?_; (case aP => exact rfl); (case aF => exact (fun k hk => by have := HBT6.out.lt; omega)); (case aO => exact HRR6.out); (case aB => exact HCB6.out.bel); (case aS => exact HCB6.out.bel.size); (case aL => have := HL8.out; omega); intro v9 w9 ho hb hg hat; rw [HI8.out] at ho; have HCB9 := Aside0.mk (HCB6.out.row HRR6.out hg); have HRR9 := Aside0.mk ho; have ct9 : w9.cell? ⟨gset, 0, none⟩ = some (.int .i64 (s : Nat)) := (HBT6.out.gb hg (fun e => HRR6.out.1 _ e.symm rfl)).cell 0; have HT := Aside0.mk (core_tail (s := s) HCB9.out HRR9.out); clear ho hb hg hat ct6))
            go_roundg (gk - 1)
            case measure => have := HQ.out; omega
            case rel => exact ⟨s + 1, _, cs ++ [s], rfl, ⟨by omega, by omega⟩, ⟨by have := HQ.out; omega⟩, HP2, ⟨HT.out.1⟩, ⟨HT.out.2.1⟩, ⟨HT.out.2.2.1⟩, ⟨HT.out.2.2.2⟩⟩
      · have hcl : ((ints (memL s)).any fun x => leavesB n (sgF fs x.toNat) s) = true := by
          cases hh : ((ints (memL s)).any fun x => leavesB n (sgF fs x.toNat) s) with
          | true => rfl
          | false => exact absurd (HCLO.out.1 hh) hclo
        rw [hcl] at HCX
        clear hcl
        go_wp2_with fail
        refine HCX.out.mono ?_
        rintro e w4 ⟨rfl, hb4⟩
        have HCB4 := Aside0.mk (HCB3.out.later hb4)
        have HRR4 := Aside0.mk (Kd.R_below HRR3.out hb4)
        have ct4 : w4.cell? ⟨gset, 0, none⟩ = some (.int .i64 (s : Nat)) := (HBT3.out.later hb4).cell 0
        have HP2 := Aside0.mk (cores_skip HCP.out (fun hm => hclo hm.1.2.2.1))
        have HT := Aside0.mk (core_tail (s := s) HCB4.out HRR4.out)
        clear hb4
        go_wp2_with fail
        go_roundg (gk - 1)
        case measure => have := HQ.out; omega
        case rel => exact ⟨s + 1, _, cs, rfl, ⟨by omega, by omega⟩, ⟨by have := HQ.out; omega⟩, HP2, ⟨HT.out.1⟩, ⟨HT.out.2.1⟩, ⟨HT.out.2.2.1⟩, ⟨HT.out.2.2.2⟩⟩
    · obtain rfl : N = s := by omega
      have hsf : decide (N < N) = false := by simp
      have hall : ∀ m, m ∈ cs ↔ MinBad fs n m := fun m => by
        rw [HCP.out.1 m]
        exact ⟨fun h => h.2, fun h => ⟨by rw [HN.out]; exact h.1.2.1, h⟩⟩
      have hdr : Below wr.heap.size wr wr.drew := below_drew (Below.refl _ _)
      have HBd := Aside0.mk (below_then HB.out HB.out.size (HCB.out.later hdr).bel)
      have HC7d := Aside0.mk (Kd.C_below HC7.out hdr)
      have HCS := Aside0.mk (show cs.length ≤ 1024 by have := HCP.out.2; omega)
      have HC40 := Aside0.mk (show ∀ c ∈ cs, c < 4096 from fun c hc => by have := ((HCP.out.1 c).1 hc).1; omega)
      by_cases hz : cs.length = 0
      · have hz1 : ((cs.length : Int) == 0) = true := beq_iff_eq.2 (by omega)
        have HQ2 := Aside0.mk (show coreO l = ([], 10) by
          rw [HR.out, coreV_none (fun s hs => by
            have hm := (hall s).2 hs
            rw [List.eq_nil_of_length_eq_zero hz] at hm
            cases hm)])
        clear hall hz hdr
        generalize cs.length = q at *
        go_wp2_with fail
        go_region
        go_wp2_with fail
        go_ret2
        exact ⟨none, 0, (by rw [HQ2.out]; rfl), (by rw [HQ2.out]; exact Nat.le_refl _), (by rw [HQ2.out]; exact Kd.C_nil _ _), HBd.out⟩
      · have hz1 : ((cs.length : Int) == 0) = false := beq_eq_false_iff_ne.2 (by omega)
        obtain ⟨r, hr1, hr2⟩ := core_of_list hall (by omega)
        have HQ2 := Aside0.mk (show coreO l = (r, 0) by rw [HR.out, coreV_some hr2])
        have HLS := Aside0.mk (lists_any cs HC40.out (by have := HCS.out; omega) wr.drew A7 c7 HC7d.out H7.out)
        have hr1' : minX (cs.map memI) (cs.map memI).length = ints r := hr1
        have HR1 := Aside0.mk hr1'
        have HP1 := Aside0.mk (show 1 ≤ (cs.map memI).length by rw [List.length_map]; omega)
        have HML := Aside0.mk (show (cs.map memI).length = cs.length from List.length_map _)
        clear hall hz hdr hr1 hr2 hr1'
        go_wp2_with fail
        go_region
        go_wp2_with fail
        refine HLS.out.mono ?_
        rintro e w4 ⟨A4, c4, rfl, h4, hC4, hb4⟩
        have hmf4 := minfunc_any w4 A4 c4 (cs.map memI) HP1.out (by rw [HML.out]; exact hC4)
        rw [HML.out] at hmf4
        have HMF := Aside0.mk hmf4
        have HB4 := Aside0.mk (below_then HBd.out HBd.out.size hb4)
        clear hmf4 hC4 hb4 h4
        go_wp2_with fail
        refine HMF.out.mono ?_
        rintro e w5 ⟨A5, c5, rfl, h5, hC5, rfl⟩
        rw [HR1.out, ints_length] at h5 hC5 ⊢
        have HC5 := Aside0.mk hC5
        have H5 := Aside0.mk h5
        clear hC5 h5
        go_wp2_with fail
        go_ret2
        exact ⟨A5, c5, (by rw [HQ2.out]; rfl), (by rw [HQ2.out]; exact H5.out), (by rw [HQ2.out]; exact HC5.out), HB4.out⟩
set_option maxRecDepth 100000 in
theorem core_call (l : List (List UInt8)) (w : World) (A : Option Addr) (c : Nat) (hr : Kd.C Kd.string w A l.length (l.map strL)) :
    Calls Tryz.prog 23 #[.slice A l.length c] w (OutL (coreO l) w) := by
  by_cases h0 : sysE l = 0
  · exact core_good l h0 w A c hr
  · have HR := Aside0.mk (show coreO l = ([], sysE l) by unfold coreO; rw [if_neg h0])
    have HO := Aside0.mk (of_bad h0 w A c hr)
    have hne : (sysE l != 0) = true := bne_iff_ne.2 h0
    clear h0 hr
    generalize sysE l = x at *
    go_enter Tryz.func23, Tryz.ntmps23
    go_wp2_with (first | (go_at_call 27; refine HO.out.mono ?_; rintro e w1 ⟨rfl, hb⟩; have HB := Aside0.mk hb; clear hb))
    go_ret2
    exact ⟨none, 0, (by rw [HR.out]; rfl), (by rw [HR.out]; exact Nat.le_refl _), (by rw [HR.out]; exact Kd.C_nil _ _), below_alloc HB.out _⟩
end Go.Proofs.YtijaefmaceolbaaGreatDoor.Im

namespace Go.Proofs.YtijaefmaceolbaaGreatDoor.Im
open Go.RowKit Go.Proofs.YtijaefmaceolbaaGreatDoorW.PrintWords Go.Proofs.YtijaefmaceolbaaGreatDoorW.PrintLast Go.Proofs.YtijaefmaceolbaaGreatDoorW.PrintMore Go.Proofs.YtijaefmaceolbaaGreatDoor.Tr
set_option linter.unusedVariables false
set_option linter.unusedSimpArgs false
def NotIn (l : List Int) (x : Int) (k : Nat) : Prop := ∀ j, j < k → rd l j ≠ x
def hasI (l : List Int) (x : Int) : Bool := l.contains x
theorem hasI_no {l : List Int} {x : Int} (h : NotIn l x l.length) : hasI l x = false := by
  unfold hasI
  rw [← Bool.not_eq_true]
  intro hc
  obtain ⟨i, hi, he⟩ := List.getElem_of_mem (List.contains_iff_mem.1 hc)
  exact h i hi (by simp [rd, hi, he])
theorem hasI_yes {l : List Int} {x : Int} {k : Nat} (hk : k < l.length) (h : rd l k = x) : hasI l x = true := by
  unfold hasI
  rw [List.contains_iff_mem]
  rw [← h]
  simp [rd, hk]
def InxPost (l : List Int) (x : Int) (w : World) (e : Ending) (w' : World) : Prop :=
  ∃ r : Int, e = .returned (.int .i64 r) ∧ (decide (r ≥ 0) = hasI l x) ∧ w = w'
set_option maxHeartbeats 1600000 in
theorem inx_any (A : Option Addr) (c : Nat) (l : List Int) (x : Int) (w : World) (hr : Kd.C (Kd.int .i64) w A l.length l) (hc : l.length ≤ c) (hl : l.length < 4611686018427387904) :
    Calls Tryz.prog 74 #[.slice A l.length c, .int .i64 x] w (InxPost l x w) := by
  have HR := Aside0.mk hr
  clear hr
  go_enter Tryz.func74, Tryz.ntmps74
  go_wp2_with fail
  go_loop [8] (fun v => ∃ k : Nat, k ≤ l.length ∧ v = .int .i64 (k : Int) ∧ Aside0 (NotIn l x k)) (fun v => l.length - (intOf v).toNat)
  case atStart => exact ⟨0, Nat.zero_le _, rfl, ⟨fun j hj => absurd hj (by omega)⟩⟩
  case round =>
    obtain ⟨k, hk, rfl, HN⟩ := hrel
    by_cases hkl : k < l.length
    · obtain ⟨ad, rfl, cx⟩ := Kd.at_int HR.out (k : Int) (by omega) (by omega)
      simp only [Int.toNat_natCast] at cx
      obtain ⟨y, hy⟩ : ∃ y, rd l (k : Int) = y := ⟨_, rfl⟩
      rw [hy] at cx
      by_cases he : x = y
      · have HF := Aside0.mk (hasI_yes hkl (hy.trans he.symm))
        have hb : (x == y) = true := beq_iff_eq.2 he
        clear he hy
        go_wp2_with fail
        go_ret
        exact ⟨k, rfl, by rw [HF.out]; simp, rfl⟩
      · have HN1 : Aside0 (NotIn l x (k + 1)) := ⟨fun j hj => by
          rcases Nat.lt_or_ge j k with hlt | hge
          · exact HN.out j hlt
          · obtain rfl : j = k := by omega
            rw [hy]; exact fun e => he e.symm⟩
        have hb : (x == y) = false := beq_eq_false_iff_ne.2 he
        clear he hy
        go_wp2_with fail
        go_round
        case rel => exact ⟨k + 1, by omega, by go_num, HN1⟩
        case measure => simp [intOf]; omega
    · obtain rfl : k = l.length := by omega
      have HF := Aside0.mk (hasI_no HN.out)
      go_wp2_with fail
      go_ret
      exact ⟨-1, rfl, by rw [HF.out]; rfl, rfl⟩
theorem has_any (A : Option Addr) (c : Nat) (l : List Int) (x : Int) (w : World) (hr : Kd.C (Kd.int .i64) w A l.length l) (hc : l.length ≤ c) (hl : l.length < 4611686018427387904) :
    Calls Tryz.prog 54 #[.slice A l.length c, .int .i64 x] w fun e w' => e = .returned (.bool (hasI l x)) ∧ w = w' := by
  have HI := Aside0.mk (inx_any A c l x w hr hc hl)
  clear hr
  go_enter Tryz.func54, Tryz.ntmps54
  go_wp2_with fail
  refine HI.out.mono ?_
  rintro e w' ⟨r, rfl, hr, rfl⟩
  have HR := Aside0.mk hr
  clear hr
  go_wp2_with fail
  go_ret
  exact ⟨by rw [← HR.out]; rfl, rfl⟩
def FoundP (w : World) (r : Option (List Nat)) (e : Ending) (w' : World) : Prop :=
  match r with
  | some l => ∃ A c, e = .returned (.slice (some A) (ints l).length c) ∧ (ints l).length ≤ c ∧ Kd.C (Kd.int .i64) w' (some A) (ints l).length (ints l) ∧ Below w.heap.size w w'
  | none => e = .returned (.slice none 0 0) ∧ Below w.heap.size w w'
theorem hasI_ints (l : List Nat) (j : Nat) : hasI (ints l) (j : Int) = l.contains j := by
  unfold hasI ints
  rw [Bool.eq_iff_iff, List.contains_iff_mem, List.contains_iff_mem, List.mem_map]
  constructor
  · rintro ⟨x, hx, he⟩
    have : x = j := by exact_mod_cast he
    rwa [← this]
  · exact fun h => ⟨j, h, rfl⟩
def noneTo (l : List Nat) (g : Nat → Option (List Nat)) (k : Nat) : Prop := (l.take k).findSome? g = none
theorem noneTo_zero (l : List Nat) (g : Nat → Option (List Nat)) : noneTo l g 0 := by simp [noneTo]
theorem noneTo_succ {l : List Nat} {g : Nat → Option (List Nat)} {k : Nat} (h : noneTo l g k) (hk : k < l.length) (h1 : g l[k] = none) : noneTo l g (k + 1) := by
  unfold noneTo at *
  rw [List.take_succ_eq_append_getElem hk, List.findSome?_append, h]
  simp [h1]
theorem noneTo_some {l : List Nat} {g : Nat → Option (List Nat)} {k : Nat} {r : List Nat} (h : noneTo l g k) (hk : k < l.length) (h1 : g l[k] = some r) : l.findSome? g = some r := by
  unfold noneTo at h
  have e : l = l.take k ++ l[k] :: l.drop (k + 1) := by simp
  have e2 : (l[k] :: l.drop (k + 1)).findSome? g = some r := by rw [List.findSome?_cons, h1]
  rw [e, List.findSome?_append, h, e2]
  rfl
theorem noneTo_all {l : List Nat} {g : Nat → Option (List Nat)} (h : noneTo l g l.length) : l.findSome? g = none := by
  unfold noneTo at h
  rwa [List.take_length] at h
theorem ex_load1 {a : Act} {o : Oper} {t : TypeId} {x : Operand} (ho : o.op = .load t x) (w : World) (ad : Addr) (v : Value) (hx : a.eval x = .pointer (some ad)) (hc : w.cell? ad = some v) (ht : ∀ w, (isAgg t).run Tryz.prog w = .ok false w) :
    (execOp a.eval o).run Tryz.prog w = .ok (.value v) w := by
  have hl : (Instr.loadAt t (.pointer (some ad))).run Tryz.prog w = .ok v w := by simp [Instr.loadAt, Instr.sureAddr, loadVar, ht, Sem.run_bind, Result.andThen, go_sem, hc]
  unfold execOp
  simp [ho, hx, hl, Result.andThen]
theorem C_one (w : World) (i : Nat) : Kd.C (Kd.int .i64) (w.alloc (.cells #[.int .i64 (i : Nat)] 3)) (some ⟨w.heap.size, 0, none⟩) (ints [i]).length (ints [i]) := by
  have h1 : (w.alloc (.cells #[.int .i64 (i : Nat)] 3)).ownsRow w.heap.size 3 1 (.slice (some ⟨w.heap.size, 0, none⟩) 1 1) (ints [i]).length (encs (Value.int .i64) (ints [i])) :=
    ⟨rfl, .inr ⟨w.heap.size, 1, #[.int .i64 (i : Nat)], rfl, Nat.le_refl _, Blk.new w 3 _, by simp [ints], by decide, rfl, rfl⟩⟩
  have h2 : Kd.R (Kd.int .i64) 3 (w.alloc (.cells #[.int .i64 (i : Nat)] 3)) w.heap.size (fun _ => True) (.slice (some ⟨w.heap.size, 0, none⟩) 1 1) (ints [i]) := Kd.R_of_own h1 (fun _ _ => trivial)
  obtain ⟨A, c, e, _, hC⟩ := Kd.R_reads h2
  injection e with e1
  rw [← e1] at hC
  exact hC
structure CycB (w : World) (ga gl gd go gm n long : Nat) (odd : Bool) (fs : List Fm) (R : Nat → Nat) : Prop where
  ba : Blk w ga 62 #[.slice (some ⟨gm, 0, none⟩) n n]
  M : ArcM n fs gm R w
  bl : Blk w gl 3 #[.int .i64 (long : Nat)]
  bd : Blk w gd 4 #[.bool odd]
  bo : Blk w go 75 #[.func (.func 53) #[] #[.pointer (some ⟨ga, 0, none⟩), .pointer (some ⟨gl, 0, none⟩), .pointer (some ⟨gd, 0, none⟩), .pointer (some ⟨go, 0, none⟩)]]
theorem CycB.later {w w' : World} {ga gl gd go gm n long : Nat} {odd : Bool} {fs : List Fm} {R : Nat → Nat} (h : CycB w ga gl gd go gm n long odd fs R) (hb : Below w.heap.size w w') : CycB w' ga gl gd go gm n long odd fs R :=
  ⟨h.ba.later hb, h.M.later hb, h.bl.later hb, h.bd.later hb, h.bo.later hb⟩
theorem infoSg2 : (Tryz.prog.info? 77).map (·.size) = some 2 := by kernel_rfl
theorem ex_loadS {ev : Operand → Value} {o : Oper} {x : Operand} (ho : o.op = .load 77 x) (w : World) (g : Nat) (a b : Bool) (hx : ev x = .pointer (some ⟨g, 0, none⟩)) (h : Blk w g 77 #[.bool a, .bool b]) :
    (execOp ev o).run Tryz.prog w = .ok (.value (.agg #[.bool a, .bool b])) w := by
  have := run_loadVar_row (P := Tryz.prog) w g 77 77 #[.bool a, .bool b] (0, 0) _ h Tryz.underlying77 rfl (by rw [infoSg2]; rfl)
  unfold execOp
  simp only [ho, hx, Instr.loadAt, Instr.sureAddr, Sem.run_bind, Sem.run_pure, Result.andThen_ok, this]
def shutF (sg : Nat → Nat → Bool × Bool) (odd : Bool) (way : List Nat) (can : Bool × Bool) (j : Nat) : Option (List Nat) :=
  if j = way.getD 0 0 ∧ hasP (jn can (sg (way.getLastD 0) j)) odd = true then some way else none
theorem shut_all (sg : Nat → Nat → Bool × Bool) (n : Nat) (odd : Bool) (way : List Nat) (can : Bool × Bool) (h : way.getD 0 0 < n) : (List.range n).findSome? (shutF sg odd way can) = cyc sg n odd 0 way can := by
  rw [cyc]
  by_cases hp : hasP (jn can (sg (way.getLastD 0) (way.getD 0 0))) odd = true
  · rw [if_pos hp]
    have hne : (List.range n).findSome? (shutF sg odd way can) ≠ none := findSome_ne (List.mem_range.2 h) (by unfold shutF; rw [if_pos ⟨rfl, hp⟩]; simp)
    cases hf : (List.range n).findSome? (shutF sg odd way can) with
    | none => exact absurd hf hne
    | some r =>
      obtain ⟨j, _, hj⟩ := List.exists_of_findSome?_eq_some hf
      unfold shutF at hj
      split at hj
      · rw [← hj]
      · cases hj
  · rw [if_neg hp, List.findSome?_eq_none_iff]
    intro j _
    unfold shutF
    rw [if_neg]
    rintro ⟨rfl, h2⟩
    exact hp h2
end Go.Proofs.YtijaefmaceolbaaGreatDoor.Im

namespace Go.Proofs.YtijaefmaceolbaaGreatDoor.Im
open Go.RowKit Go.Proofs.YtijaefmaceolbaaGreatDoorW.PrintWords Go.Proofs.YtijaefmaceolbaaGreatDoorW.PrintLast Go.Proofs.YtijaefmaceolbaaGreatDoorW.PrintMore Go.Proofs.YtijaefmaceolbaaGreatDoor.Tr
set_option linter.unusedVariables false
set_option linter.unusedSimpArgs false
theorem last_int (way : List Nat) (h1 : 1 ≤ way.length) : rd (ints way) ((way.length : Int) - 1) = ((way.getLastD 0 : Nat) : Int) := by
  have : ((way.length : Int) - 1) = ((way.length - 1 : Nat) : Int) := by omega
  rw [this, rd_ints]
  congr 1
  rw [List.getD_eq_getElem?_getD, List.getLastD_eq_getLast?, List.getLast?_eq_getElem?]
theorem last_mem {way : List Nat} (h1 : 1 ≤ way.length) : way.getLastD 0 ∈ way := by
  rw [List.getLastD_eq_getLast?]
  cases hg : way.getLast? with
  | none => rw [List.getLast?_eq_none_iff] at hg; subst hg; simp at h1
  | some x => exact List.mem_of_getLast? hg
theorem first_mem {way : List Nat} (h1 : 1 ≤ way.length) : way.getD 0 0 ∈ way := by
  cases way with
  | nil => simp at h1
  | cons a l => simp
set_option maxHeartbeats 6400000 in
set_option maxRecDepth 100000 in
theorem cyc1_zero (ga gl gd go gm n long : Nat) (odd : Bool) (fs : List Fm) (R : Nat → Nat) (n10 : n ≤ 10) (hlong : long ≤ 10) (way : List Nat) (can : Bool × Bool) (A : Option Addr) (c : Nat) (w : World) (hl : way.length = long) (h1 : 1 ≤ way.length) (hx : ∀ x ∈ way, x < n)
    (hO : CycB w ga gl gd go gm n long odd fs R) (hr : Kd.C (Kd.int .i64) w A (ints way).length (ints way)) (hc : (ints way).length ≤ c) :
    Calls Tryz.prog 53 #[.slice A (ints way).length c, .agg #[.bool can.1, .bool can.2], .pointer (some ⟨ga, 0, none⟩), .pointer (some ⟨gl, 0, none⟩), .pointer (some ⟨gd, 0, none⟩), .pointer (some ⟨go, 0, none⟩)] w (FoundP w (cyc (sgF fs) n odd 0 way can)) := by
  have hlen : (ints way).length = way.length := ints_length way
  obtain ⟨ad, rfl⟩ := C_some hr (by omega)
  obtain ⟨_, e0, cl⟩ := Kd.at_int hr ((way.length : Int) - 1) (by omega) (by omega)
  cases e0
  obtain ⟨_, e0, cf⟩ := Kd.at_int hr 0 (by omega) (by omega)
  cases e0
  have hfirst : rd (ints way) 0 = ((way.getD 0 0 : Nat) : Int) := rd_ints way 0
  rw [last_int way h1, show ((way.length : Int) - 1).toNat = way.length - 1 by omega] at cl
  rw [hfirst, show Int.toNat 0 = 0 from rfl, add_zero] at cf
  have hla := hx _ (last_mem h1)
  have hfa := hx _ (first_mem h1)
  have HSH := Aside0.mk (shut_all (sgF fs) n odd way can hfa)
  have cm : w.cell? ⟨gm, way.getLastD 0, none⟩ = some (.slice (some ⟨R (way.getLastD 0), 0, none⟩) n n) := by rw [hO.M.bm.cell]; exact mtxC_get n n R _ hla hla
  have HBR := Aside0.mk (hO.M.br _ hla)
  obtain ⟨gg, hgg⟩ : ∃ gg : Nat → Option (List Nat), gg = shutF (sgF fs) odd way can := ⟨_, rfl⟩
  rw [← hgg] at HSH
  have HGG := Aside0.mk (fun j => (show gg j = if j = way.getD 0 0 ∧ hasP (jn can (sgF fs (way.getLastD 0) j)) odd = true then some way else none from by rw [hgg]; rfl))
  obtain ⟨RR, hRR⟩ : ∃ RR, cyc (sgF fs) n odd 0 way can = RR := ⟨_, rfl⟩
  rw [hRR] at HSH ⊢
  have ca : w.cell? ⟨ga, 0, none⟩ = some (.slice (some ⟨gm, 0, none⟩) n n) := hO.ba.cell 0
  have HO := Aside0.mk hO
  have HR := Aside0.mk hr
  rw [hlen] at HR hc ⊢
  have HLEN := Aside0.mk hlen
  have HW := Aside0.mk h1
  have HL := Aside0.mk hl
  clear hRR hgg hfirst hO hr hlen
  generalize way.getLastD 0 = la at *
  generalize way.getD 0 0 = fa at *
  generalize way.length = q at *
  have la0 : (0 : Int) ≤ la := by omega
  have la1 : (la : Int) < (n : Int) := by omega
  have wl0 : (0 : Int) ≤ (q : Int) - 1 := by omega
  have wl1 : ((q : Int) - 1).toNat = q - 1 := by omega
  have neq : ((q : Int) == (long : Int)) = true := beq_iff_eq.2 (by omega)
  have n0 : (0 : Int) ≤ (n : Int) := by omega
  have q10 : q ≤ 10 := by omega
  clear hl hlong hx
  obtain ⟨c1, c2⟩ := can
  have HB0 := Aside0.mk (below_alloc (Below.refl w.heap.size w) (.cells #[.bool c1, .bool c2] 77))
  have HBC := Aside0.mk (Blk.new w 77 #[.bool c1, .bool c2])
  have cl' := pw_cell_below HB0.out cl
  have ca' := pw_cell_below HB0.out ca
  have cm' := pw_cell_below HB0.out cm
  go_enter Tryz.func53, Tryz.ntmps53
  go_wp2_with fail
  clear cl ca cm cl' ca' cm'
  go_loopw [25] (fun v wr => ∃ k : Nat, k ≤ n ∧ v = .int .i64 (k : Int) ∧ Aside0 (noneTo (List.range n) gg k) ∧ Aside0 (Below w.heap.size w wr) ∧ Aside0 (Blk wr w.heap.size 77 #[.bool c1, .bool c2])) (fun v _ => n - (intOf v).toNat)
  case atStart => exact ⟨0, by omega, rfl, ⟨noneTo_zero _ _⟩, HB0, HBC⟩
  case round =>
    clear HB0 HBC
    obtain ⟨k, hk, rfl, HN, HB, HBC⟩ := hrel
    have k0 : (0 : Int) ≤ (k : Int) := by omega
    by_cases hkn : k < n
    · have hkn' : (k : Int) < (n : Int) := by omega
      have hbk := HBR.out.later HB.out
      have ce : wr.cell? ⟨R la, k * 2, none⟩ = some (.bool (sgF fs la k).1) := by rw [hbk.cell]; exact rowC_even n _ k hkn
      have co : wr.cell? ⟨R la, k * 2 + 1, none⟩ = some (.bool (sgF fs la k).2) := by rw [hbk.cell]; exact rowC_odd n _ k hkn
      have cc0 : wr.cell? ⟨w.heap.size, 0, none⟩ = some (.bool c1) := HBC.out.cell 0
      have cc1 : wr.cell? ⟨w.heap.size, 1, none⟩ = some (.bool c2) := HBC.out.cell 1
      have HGk := Aside0.mk (HGG.out k)
      have HNN := Aside0.mk (fun h => noneTo_succ HN.out (by rw [List.length_range]; exact hkn) h)
      have HNS := Aside0.mk (fun r h => noneTo_some (r := r) HN.out (by rw [List.length_range]; exact hkn) h)
      simp only [List.getElem_range] at HNN HNS
      clear hbk
      obtain ⟨a1, a2, ha⟩ : ∃ a1 a2, sgF fs la k = (a1, a2) := ⟨_, _, rfl⟩
      rw [ha] at ce co HGk
      clear ha
      obtain ⟨x1, hx1⟩ : ∃ x1, (c1 && a1 || c2 && a2) = x1 := ⟨_, rfl⟩
      obtain ⟨x2, hx2⟩ : ∃ x2, (c1 && a2 || c2 && a1) = x2 := ⟨_, rfl⟩
      have hj : jn (c1, c2) (a1, a2) = (x1, x2) := by rw [← hx1, ← hx2]; rfl
      rw [hj] at HGk
      have HX1 := Aside0.mk hx1
      have HX2 := Aside0.mk hx2
      clear hx1 hx2 hj
      have hba : Below wr.heap.size wr (wr.alloc (.cells #[.bool a1, .bool a2] 77)) := below_alloc (Below.refl _ _) _
      have HBA := Aside0.mk hba
      have d0 : (wr.alloc (.cells #[.bool a1, .bool a2] 77)).cell? ⟨w.heap.size, 0, none⟩ = some (.bool c1) := (HBC.out.later hba).cell 0
      have d1 : (wr.alloc (.cells #[.bool a1, .bool a2] 77)).cell? ⟨w.heap.size, 1, none⟩ = some (.bool c2) := (HBC.out.later hba).cell 1
      have d2 : (wr.alloc (.cells #[.bool a1, .bool a2] 77)).cell? ⟨wr.heap.size, 0, none⟩ = some (.bool a1) := (Blk.new wr 77 #[.bool a1, .bool a2]).cell 0
      have d3 : (wr.alloc (.cells #[.bool a1, .bool a2] 77)).cell? ⟨wr.heap.size, 1, none⟩ = some (.bool a2) := (Blk.new wr 77 #[.bool a1, .bool a2]).cell 1
      clear cc0 cc1 hba
      go_upto_region 5 with fail
      clear ce co
      generalize wr.alloc (.cells #[.bool a1, .bool a2] 77) = W0 at *
      go_cut [12] (fun s12 wx => ∃ g : Nat, s12 = .pointer (some ⟨g, 0, none⟩) ∧ Aside0 (Blk wx g 77 #[.bool x1, .bool x2]) ∧ Aside0 (Below W0.heap.size W0 wx))
      case first =>
        cases c1 <;> cases c2 <;> cases a1 <;> cases a2
        all_goals
          have h1 := HX1.out
          have h2 := HX2.out
          simp only [Bool.and_true, Bool.and_false, Bool.or_true, Bool.or_false, Bool.true_and, Bool.false_and, Bool.true_or, Bool.false_or] at h1 h2
          subst h1
          subst h2
          go_wp2_with fail
          go_meet
          exact ⟨_, rfl, ⟨Blk.new _ _ _⟩, ⟨below_alloc (Below.refl _ _) _⟩⟩
      case rest =>
        obtain ⟨g, rfl, HBN, HBW⟩ := hcut
        have hwc := below_then HBA.out HBA.out.size HBW.out
        have HBT := Aside0.mk (below_then HB.out HB.out.size hwc)
        have HBC2 := Aside0.mk (HBC.out.later hwc)
        have hOc := HO.out.later HBT.out
        have c7 : wc.cell? ⟨gl, 0, none⟩ = some (.int .i64 (long : Nat)) := hOc.bl.cell 0
        have c8 : wc.cell? ⟨gd, 0, none⟩ = some (.bool odd) := hOc.bd.cell 0
        have cn0 : wc.cell? ⟨g, 0, none⟩ = some (.bool x1) := HBN.out.cell 0
        have cn1 : wc.cell? ⟨g, 1, none⟩ = some (.bool x2) := HBN.out.cell 1
        have cfc := pw_cell_below HBT.out cf
        have hgk := HGk.out
        clear hwc hOc d0 d1 d2 d3 HBN HX1 HX2 cf HB HBC HBA
        by_cases hcond : k = fa ∧ hasP (x1, x2) odd = true
        · rw [if_pos hcond] at hgk
          have HF := Aside0.mk (HSH.out.symm.trans (HNS.out way hgk))
          obtain ⟨hkf, hp⟩ := hcond
          have hkfb : ((k : Int) == (fa : Int)) = true := beq_iff_eq.2 (by omega)
          clear hgk HNN HNS HGk hkf
          cases odd
          · have hp1 : x1 = true := hp
            subst hp1
            clear hp
            cases x2 <;>
            (go_wp2_with fail
             go_ret
             rw [HF.out]
             exact ⟨ad, c, by rw [HLEN.out]; rfl, by rw [HLEN.out]; exact hc, by rw [HLEN.out]; exact Kd.C_below HR.out HBT.out, HBT.out⟩)
          · have hp1 : x2 = true := hp
            subst hp1
            clear hp
            cases x1 <;>
            (go_wp2_with fail
             go_ret
             rw [HF.out]
             exact ⟨ad, c, by rw [HLEN.out]; rfl, by rw [HLEN.out]; exact hc, by rw [HLEN.out]; exact Kd.C_below HR.out HBT.out, HBT.out⟩)
        · rw [if_neg hcond] at hgk
          have HN1 := Aside0.mk (HNN.out hgk)
          clear hgk HNN HNS HGk
          by_cases hkf : k = fa
          · have hkfb : ((k : Int) == (fa : Int)) = true := beq_iff_eq.2 (by omega)
            have hp : hasP (x1, x2) odd = false := by
              cases hh : hasP (x1, x2) odd with
              | false => rfl
              | true => exact absurd ⟨hkf, hh⟩ hcond
            clear hcond hkf
            cases odd
            · have hp1 : x1 = false := hp
              subst hp1
              clear hp
              cases x2 <;>
              (go_wp2_with fail
               go_roundw
               case rel => exact ⟨k + 1, by omega, by go_num, HN1, HBT, HBC2⟩
               case measure => simp [intOf]; omega)
            · have hp1 : x2 = false := hp
              subst hp1
              clear hp
              cases x1 <;>
              (go_wp2_with fail
               go_roundw
               case rel => exact ⟨k + 1, by omega, by go_num, HN1, HBT, HBC2⟩
               case measure => simp [intOf]; omega)
          · have hkfb : ((k : Int) == (fa : Int)) = false := beq_eq_false_iff_ne.2 (by omega)
            clear hcond hkf
            cases x1 <;> cases x2 <;>
            (go_wp2_with fail
             go_roundw
             case rel => exact ⟨k + 1, by omega, by go_num, HN1, HBT, HBC2⟩
             case measure => simp [intOf]; omega)
    · obtain rfl : n = k := by omega
      have HF := Aside0.mk (HSH.out.symm.trans (noneTo_all (by rw [List.length_range]; exact HN.out)))
      go_wp2_with fail
      go_ret
      rw [HF.out]
      exact ⟨rfl, HB.out⟩
end Go.Proofs.YtijaefmaceolbaaGreatDoor.Im

