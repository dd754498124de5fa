/- Further parts of the same walk: contracts of the functions that the law reaches, each under the conditions that it states. -/
import Derived.Test.YtijaefmaceolbaaGreatDoorC4A
import Derived.Handy
namespace Go.Proofs.YtijaefmaceolbaaGreatDoor.Im
open Go.RowKit Go.Proofs.YtijaefmaceolbaaGreatDoorW.PrintWords Go.Proofs.YtijaefmaceolbaaGreatDoorW.PrintLast Go.Proofs.YtijaefmaceolbaaGreatDoorW.PrintMore Go.Proofs.YtijaefmaceolbaaGreatDoor.Tr
set_option linter.unusedVariables false
def encF : Fm → Value
  | .con b => .iface 136 (.int .u8 (if b then 49 else 48))
  | .lt i => .iface 137 (.int .i64 (i : Nat))
  | .neg f => .iface 139 (.agg #[encF f])
  | .bin k l r => .iface 141 (.agg #[encF l, encF r, .int .u8 ((opByte k).toNat : Nat)])
theorem encF_one (f : Fm) : (encF f).oneCell' = true := by cases f <;> rfl
def kF : Kd Fm := Kd.scalar encF encF_one
def payF : Fm → Value
  | .con b => .int .u8 (if b then 49 else 48)
  | .lt i => .int .i64 (i : Nat)
  | .neg f => .agg #[encF f]
  | .bin k l r => .agg #[encF l, encF r, .int .u8 ((opByte k).toNat : Nat)]
def valF : Fm → Nat
  | .con _ => 130
  | .lt _ => 132
  | .neg _ => 134
  | .bin _ _ _ => 137
def b3 (c : T3) : Int := (byte3 c).toNat
theorem b3_none : b3 none = 63 := rfl
theorem b3_zero : b3 (some false) = 48 := rfl
theorem b3_one : b3 (some true) = 49 := rfl
def strV (v : List T3) : ByteArray := ⟨(v.map byte3).toArray⟩
theorem strV_size (v : List T3) : (strV v).size = v.length := by simp [strV, ByteArray.size]
theorem bt_strV (v : List T3) (i : Nat) (h : i < v.length) : bt (strV v) (i : Int) = b3 (getV v i) := by
  have hs : i < (strV v).size := by rw [strV_size]; exact h
  have e : bt (strV v) (i : Int) = (((strV v)[i]'hs).toNat : Int) := by simp [bt, hs]
  rw [e]
  show ((((strV v).data[i]'hs).toNat : Nat) : Int) = _
  simp [strV, b3, getV, h]
theorem value_con (b : Bool) (v : ByteArray) (w : World) : Calls Tryz.prog 130 #[.int .u8 (if b then 49 else 48), .string v] w fun e w' => e = .returned (.int .u8 (if b then 49 else 48)) ∧ w' = w := by
  cases b
  · go_enter Tryz.func130, Tryz.ntmps130
    go_wp2_with fail
    go_ret
    exact ⟨rfl, rfl⟩
  · go_enter Tryz.func130, Tryz.ntmps130
    go_wp2_with fail
    go_ret
    exact ⟨rfl, rfl⟩
theorem value_lt (i : Nat) (s : ByteArray) (w : World) (h : (i : Int) < s.size) : Calls Tryz.prog 132 #[.int .i64 (i : Nat), .string s] w fun e w' => e = .returned (.int .u8 (bt s i)) ∧ w' = w := by
  have i0 : (0 : Int) ≤ i := by omega
  have hs : i < s.size := by omega
  have e : bt s (i : Int) = ((s[i]'hs).toNat : Int) := by simp [bt, hs]
  rw [e]
  clear e
  go_enter Tryz.func132, Tryz.ntmps132
  go_wp2_with fail
  go_ret
  exact ⟨rfl, rfl⟩
theorem opposite_any (c : T3) (w : World) : Calls Tryz.prog 135 #[.int .u8 (b3 c)] w fun e w' => e = .returned (.int .u8 (b3 (not3 c))) ∧ w' = w := by
  rcases c with _ | (_ | _)
  · rw [b3_none]
    go_enter Tryz.func135, Tryz.ntmps135
    go_wp2_with fail
    go_ret
    exact ⟨rfl, rfl⟩
  · rw [b3_zero]
    go_enter Tryz.func135, Tryz.ntmps135
    go_wp2_with fail
    go_ret
    exact ⟨rfl, rfl⟩
  · rw [b3_one]
    go_enter Tryz.func135, Tryz.ntmps135
    go_wp2_with fail
    go_ret
    exact ⟨rfl, rfl⟩
end Go.Proofs.YtijaefmaceolbaaGreatDoor.Im

namespace Go.Proofs.YtijaefmaceolbaaGreatDoor.Im
open Go.RowKit Go.Proofs.YtijaefmaceolbaaGreatDoorW.PrintWords Go.Proofs.YtijaefmaceolbaaGreatDoorW.PrintLast Go.Proofs.YtijaefmaceolbaaGreatDoorW.PrintMore Go.Proofs.YtijaefmaceolbaaGreatDoor.Tr
set_option linter.unusedVariables false
theorem enc_open (f : Fm) : ∃ (t : TypeId) (v : Value), encF f = .iface t v ∧ (∀ w, (method 270 t v "pomade/truth.value").run Tryz.prog w = .ok (valF f, payF f) w) ∧
    ∀ (args : Array Value) (w : World), (callFunc (valF f) args).run Tryz.prog w = .ok (.enter (valF f) args) w := by
  cases f with
  | con b => exact ⟨_, _, rfl, fun w => by kernel_rfl, fun args w => by kernel_rfl⟩
  | lt i => exact ⟨_, _, rfl, fun w => by kernel_rfl, fun args w => by kernel_rfl⟩
  | neg f => exact ⟨_, _, rfl, fun w => by kernel_rfl, fun args w => by kernel_rfl⟩
  | bin k l r => exact ⟨_, _, rfl, fun w => by kernel_rfl, fun args w => by kernel_rfl⟩
def ValPost (w : World) (c : T3) (e : Ending) (w' : World) : Prop := e = .returned (.int .u8 (b3 c)) ∧ Below w.heap.size w w'
set_option maxRecDepth 100000 in
theorem value_neg (f : Fm) (s : ByteArray) (w : World) (c : T3) (h : ∀ w1, Calls Tryz.prog (valF f) #[payF f, .string s] w1 (ValPost w1 c)) :
    Calls Tryz.prog 134 #[.agg #[encF f], .string s] w (ValPost w (not3 c)) := by
  obtain ⟨t, v, he, hm, hc⟩ := enc_open f
  rw [he]
  generalize valF f = φ at *
  generalize payF f = π at *
  have HH := Aside0.mk h
  clear h he
  go_enter Tryz.func134, Tryz.ntmps134
  go_wp2_with fail
  refine (HH.out _).mono ?_
  rintro e w1 ⟨rfl, hb1⟩
  go_wp2_with (go_at_call 135; refine (opposite_any c _).mono ?_; rintro e w2 ⟨rfl, rfl⟩)
  go_ret
  exact ⟨rfl, below_then (below_alloc (Below.refl _ _) _) (by simp) hb1⟩
end Go.Proofs.YtijaefmaceolbaaGreatDoor.Im

namespace Go.Proofs.YtijaefmaceolbaaGreatDoor.Im
open Go.RowKit Go.Proofs.YtijaefmaceolbaaGreatDoorW.PrintWords Go.Proofs.YtijaefmaceolbaaGreatDoorW.PrintLast Go.Proofs.YtijaefmaceolbaaGreatDoorW.PrintMore Go.Proofs.YtijaefmaceolbaaGreatDoor.Tr
set_option linter.unusedVariables false
set_option maxHeartbeats 1600000 in
set_option maxRecDepth 100000 in
theorem value_bin (k : Tr.Op) (l r : Fm) (s : ByteArray) (w : World) (c d : T3) (hl : ∀ w1, Calls Tryz.prog (valF l) #[payF l, .string s] w1 (ValPost w1 c)) (hr : ∀ w1, Calls Tryz.prog (valF r) #[payF r, .string s] w1 (ValPost w1 d)) :
    Calls Tryz.prog 137 #[.agg #[encF l, encF r, .int .u8 ((opByte k).toNat : Nat)], .string s] w (ValPost w (op3 k c d)) := by
  obtain ⟨t, v, he, hm, hc⟩ := enc_open l
  obtain ⟨t', v', he', hm', hc'⟩ := enc_open r
  rw [he, he']
  obtain ⟨o, ho⟩ : ∃ o : Int, (((opByte k).toNat : Nat) : Int) = o := ⟨_, rfl⟩
  rw [ho]
  generalize valF l = φ at *
  generalize payF l = π at *
  generalize valF r = ψ at *
  generalize payF r = κ at *
  have HL := Aside0.mk hl
  have HR := Aside0.mk hr
  clear hl hr he he'
  go_enter Tryz.func137, Tryz.ntmps137
  go_wp2_with fail
  have hnew : Blk (w.alloc (.cells #[.iface t v, .iface t' v', .int .u8 o] 141)) w.heap.size 141 #[.iface t v, .iface t' v', .int .u8 o] := Blk.new _ _ _
  have hbel : Below w.heap.size w (w.alloc (.cells #[.iface t v, .iface t' v', .int .u8 o] 141)) := below_alloc (Below.refl _ _) _
  have hS : ∀ w', Blk w' w.heap.size 141 #[.iface t v, .iface t' v', .int .u8 o] → Below w.heap.size w w' → w'.drew.cell? ⟨w.heap.size, 0, none⟩ = some (.iface t v) ∧ w'.drew.cell? ⟨w.heap.size, 1, none⟩ = some (.iface t' v') ∧ Blk w'.drew w.heap.size 141 #[.iface t v, .iface t' v', .int .u8 o] ∧ Below w.heap.size w w'.drew :=
    fun w' h1 h2 => ⟨(Blk.drew h1).cell 0, (Blk.drew h1).cell 1, Blk.drew h1, below_drew h2⟩
  have hS' : ∀ w', Blk w' w.heap.size 141 #[.iface t v, .iface t' v', .int .u8 o] → Below w.heap.size w w' → w'.cell? ⟨w.heap.size, 0, none⟩ = some (.iface t v) ∧ w'.cell? ⟨w.heap.size, 1, none⟩ = some (.iface t' v') ∧ Blk w' w.heap.size 141 #[.iface t v, .iface t' v', .int .u8 o] ∧ Below w.heap.size w w' :=
    fun w' h1 h2 => ⟨h1.cell 0, h1.cell 1, h1, h2⟩
  go_region_held3 (fun w' => w'.cell? ⟨w.heap.size, 0, none⟩ = some (.iface t v) ∧ w'.cell? ⟨w.heap.size, 1, none⟩ = some (.iface t' v') ∧ Blk w' w.heap.size 141 #[.iface t v, .iface t' v', .int .u8 o] ∧ Below w.heap.size w w') (first | exact hS _ hnew hbel | exact hS' _ hnew2 hbel2 | go_keep)
    (first
      | (refine (HL.out _).mono ?_; rintro e w2 ⟨rfl, hb2⟩; first | (have hnew2 := Blk.later hnew2 hb2; have hbel2 := below_then hbel2 hbel2.size hb2) | (have hnew2 := Blk.later (Blk.drew hnew) hb2; have hbel2 := below_then (below_drew hbel) (below_drew hbel).size hb2))
      | (refine (HR.out _).mono ?_; rintro e w2 ⟨rfl, hb2⟩; first | (have hnew2 := Blk.later hnew2 hb2; have hbel2 := below_then hbel2 hbel2.size hb2) | (have hnew2 := Blk.later (Blk.drew hnew) hb2; have hbel2 := below_then (below_drew hbel) (below_drew hbel).size hb2)))
  have c2 : w2.cell? ⟨w.heap.size, 2, none⟩ = some (.int .u8 o) := hnew2.cell 2
  subst ho
  clear hS hS' hnew hnew2 hbel HL HR hm hm' hc hc'
  rcases c with _ | (_ | _) <;> rcases d with _ | (_ | _) <;> cases k <;> simp only [b3_none, b3_zero, b3_one] <;>
    (simp only [opByte] at c2; go_wp2_with fail; go_ret; exact ⟨rfl, hbel2⟩)
theorem value_any {n : Nat} {v : List T3} (hl : v.length = n) : ∀ (f : Fm) (w : World), f.low n → Calls Tryz.prog (valF f) #[payF f, .string (strV v)] w (ValPost w (ev (getV v) f))
  | .con b, w, _ => (value_con b (strV v) w).mono fun e w' ⟨h1, h2⟩ => ⟨by rw [h1]; cases b <;> rfl, by rw [h2]; exact Below.refl _ _⟩
  | .lt i, w, h => (value_lt i (strV v) w (by rw [strV_size, hl]; exact_mod_cast h)).mono fun e w' ⟨h1, h2⟩ => ⟨by rw [h1, bt_strV v i (by rw [hl]; exact h)]; rfl, by rw [h2]; exact Below.refl _ _⟩
  | .neg f, w, h => value_neg f (strV v) w _ fun w1 => value_any hl f w1 h
  | .bin k l r, w, h => value_bin k l r (strV v) w _ _ (fun w1 => value_any hl l w1 h.1) (fun w1 => value_any hl r w1 h.2)
end Go.Proofs.YtijaefmaceolbaaGreatDoor.Im

namespace Go.Proofs.YtijaefmaceolbaaGreatDoor.Im
open Go.RowKit Go.Proofs.YtijaefmaceolbaaGreatDoorW.PrintWords Go.Proofs.YtijaefmaceolbaaGreatDoorW.PrintLast Go.Proofs.YtijaefmaceolbaaGreatDoorW.PrintMore Go.Proofs.YtijaefmaceolbaaGreatDoor.Tr
attribute [local go_sem] max2_int min2_int max_two min_two max_three min_three max_four min_four
set_option linter.unusedVariables false
set_option linter.unusedSimpArgs false
theorem at_F {w : World} {A : Option Addr} {n : Nat} {fs : List Fm} (h : Kd.C kF w A n fs) (i : Nat) (h1 : i < n) : ∃ ad, A = some ad ∧ w.cell? (ad.add i) = some (encF (fmA fs i)) := by
  obtain ⟨ad, c, e, _, hK, hc⟩ := Kd.C_get h (.con false) (i : Int) (by omega) (by omega)
  have hK : c = [encF (fs.getD ((i : Int)).toNat (.con false))] := hK
  subst hK
  have := hc 0 _ rfl
  refine ⟨ad, e, ?_⟩
  rw [Int.toNat_natCast] at this
  have e2 : i * kF.sz + 0 = i := by show i * 1 + 0 = i; omega
  rw [e2] at this
  exact this
def nxtX (fs : List Fm) (v : List T3) (i : Nat) : List Int := ((nextV fs v).take i).map b3 ++ List.replicate (fs.length - i) 0
theorem nxtX_len {fs : List Fm} {v : List T3} {i : Nat} (h : i ≤ fs.length) : (nxtX fs v i).length = fs.length := by
  simp [nxtX, nextV_len]; omega
theorem nxtX_zero (fs : List Fm) (v : List T3) : nxtX fs v 0 = List.replicate fs.length 0 := by simp [nxtX]
theorem nxtX_set {fs : List Fm} {v : List T3} {i : Nat} (h : i < fs.length) : (nxtX fs v i).set i (b3 (ev (getV v) (fmA fs i))) = nxtX fs v (i + 1) := by
  have hn : i < (nextV fs v).length := by rw [nextV_len]; exact h
  have e : ev (getV v) (fmA fs i) = (nextV fs v)[i] := by
    have := getV_next (fs := fs) (v := v) h
    rw [← show ev (getV v) (fmA fs i) = ev (getV v) (fs.getD i (.con false)) from rfl] at this
    rw [← this]; simp [getV, hn]
  unfold nxtX
  rw [List.set_append_right _ _ (by simp; omega), List.take_succ_eq_append_getElem hn, List.map_append, List.append_assoc]
  congr 1
  have : i - ((nextV fs v).take i |>.map b3).length = 0 := by simp; omega
  rw [this, show fs.length - i = (fs.length - (i + 1)) + 1 by omega, List.replicate_succ, List.set_cons_zero, e]
  rfl
theorem nxtX_all (fs : List Fm) (v : List T3) : strOfNums (nxtX fs v fs.length) = strV (nextV fs v) := by
  have e : nxtX fs v fs.length = (nextV fs v).map b3 := by
    unfold nxtX
    rw [Nat.sub_self, List.take_of_length_le (by rw [nextV_len]; omega)]; simp
  rw [e]
  show (⟨(((nextV fs v).map b3).map fun n => UInt8.ofNat n.toNat).toArray⟩ : ByteArray) = ⟨((nextV fs v).map byte3).toArray⟩
  rw [List.map_map]
  congr 3
  funext c
  show UInt8.ofNat (b3 c).toNat = byte3 c
  rcases c with _ | (_ | _) <;> rfl
def NextPost (w : World) (r : ByteArray) (e : Ending) (w' : World) : Prop := e = .returned (.string r) ∧ Below w.heap.size w w'
set_option maxHeartbeats 3200000 in
set_option maxRecDepth 100000 in
theorem next_any {n : Nat} {fs : List Fm} (S : Tr.Sys n fs) {v : List T3} (hl : v.length = n) (w : World) (A : Option Addr) (c : Nat) (hr : Kd.C kF w A n fs) (hc : n ≤ c) :
    Calls Tryz.prog 29 #[.slice A n c, .string (strV v)] w (NextPost w (strV (nextV fs v))) := by
  have n10 := S.n10
  have len := S.len
  have n0 : (0 : Int) ≤ (n : Int) := by omega
  have HS := Aside0.mk S
  have HR := Aside0.mk hr
  have HV := Aside0.mk (fun (i : Nat) (w' : World) => value_any hl (fmA fs i) w' (fmA_low S i))
  have HB := Aside0.mk (Below.refl w.heap.size w)
  obtain ⟨s, hs⟩ : ∃ s, strV v = s := ⟨_, rfl⟩
  obtain ⟨R, hR⟩ : ∃ R, strV (nextV fs v) = R := ⟨_, rfl⟩
  rw [hs] at HV ⊢
  rw [hR]
  have HRR := Aside0.mk hR
  have LEN := Aside0.mk len
  clear hr S hs hR hl len
  go_enter Tryz.func29, Tryz.ntmps29
  go_wp2_with (first | ((with_reducible refine gate_dst (N := 10) rfl ?_); refine Kd.R_make (Kd.int .u8) _ 5 rfl (N := 10) rfl 87 _ _ rfl (n : Int) rfl rfl Tryz.underlying87 (.int .u8 0) 1 info5 rfl (by decide) (by omega) 0 (ok := fun _ => True) (okp := fun _ => True) rfl (fun _ hk => hk) trivial n0 (by omega) (Below.refl _ _) (Nat.le_refl _) ?_; intro v170 w5 ho6 hb hg_ hnew_; clear hg_ hnew_; rw [Int.toNat_natCast] at ho6; have HB := Aside0.mk (below_step HB.out hb); have HO := Aside0.mk (Kd.R_lower ho6 (Nat.le_refl _)); clear hb ho6))
  have hpos : 0 < (List.replicate n (0 : Int)).length := by rw [List.length_replicate]; exact HS.out.pos
  obtain ⟨go, co, e170, hgo, _, _⟩ := Kd.R_form HO.out hpos
  rw [List.length_replicate] at e170
  subst e170
  have hX0 : nxtX fs v 0 = List.replicate n 0 := by rw [nxtX_zero, LEN.out]
  rw [← hX0] at HO
  clear hX0 hpos
  go_loopw [13] (fun v13 wr => ∃ i : Nat, i ≤ n ∧ v13 = .int .i64 (i : Int) ∧ Aside0 (Kd.R (Kd.int .u8) 5 wr w.heap.size (fun _ => True) (.slice (some ⟨go, 0, none⟩) n co) (nxtX fs v i)) ∧ Aside0 (Below w.heap.size w wr)) (fun v13 _ => n - (intOf v13).toNat)
  case atStart => exact ⟨0, by omega, rfl, HO, HB⟩
  case round =>
    clear HB HO
    obtain ⟨i, hi, rfl, HX, HB⟩ := hrel
    have i0 : (0 : Int) ≤ (i : Int) := by omega
    by_cases hin : i < n
    · obtain ⟨ad, rfl, hcell⟩ := at_F (Kd.C_below HR.out HB.out) i hin
      obtain ⟨t, u, he, hm, hcf⟩ := enc_open (fmA fs i)
      have hset := Aside0.mk (nxtX_set (fs := fs) (v := v) (i := i) (by rw [LEN.out]; exact hin))
      have HVi := Aside0.mk (HV.out i)
      rw [he] at hcell
      generalize valF (fmA fs i) = φ at *
      generalize payF (fmA fs i) = π at *
      generalize ev (getV v) (fmA fs i) = x at *
      clear he HV
      have hin' : (i : Int) < (n : Int) := by omega
      go_wp2_with fail
      refine (HVi.out _).mono ?_
      rintro e w2 ⟨rfl, hb2⟩
      have HX2 := Aside0.mk (Kd.R_below HX.out hb2)
      have HB2 := Aside0.mk (below_then HB.out HB.out.size hb2)
      clear hb2 hcell
      obtain ⟨hx1, hf1⟩ := Kd.R_celln 0 HX2.out (i : Int) i0 hin'
      rw [Int.toNat_natCast] at hx1 hf1
      have HP := Aside0.mk (Kd.R_putg HX2.out (i : Int) (b3 x))
      go_wp2_with fail
      go_roundw
      case rel =>
        refine ⟨i + 1, by omega, by go_num, ⟨?_⟩, ⟨below_set HB2.out hgo⟩⟩
        have := HP.out.1
        rw [Int.toNat_natCast, hset.out] at this
        exact this
      case measure => simp [intOf]; omega
    · have hin' : ¬ ((i : Int) < (n : Int)) := by omega
      obtain rfl : n = i := by omega
      have hcv := own_string (P := Tryz.prog) Tryz.underlying87 Tryz.underlying5 Tryz.underlying9 (Kd.own_of_R HX.out)
      have hfin : strOfNums (nxtX fs v n) = R := by rw [← LEN.out, nxtX_all, HRR.out]
      rw [hfin] at hcv
      clear hin'
      go_wp2_with fail
      go_ret
      exact ⟨rfl, HB.out⟩
end Go.Proofs.YtijaefmaceolbaaGreatDoor.Im

namespace Go.Proofs.YtijaefmaceolbaaGreatDoor.Im
open Go.RowKit Go.Proofs.YtijaefmaceolbaaGreatDoorW.PrintWords Go.Proofs.YtijaefmaceolbaaGreatDoorW.PrintLast Go.Proofs.YtijaefmaceolbaaGreatDoorW.PrintMore Go.Proofs.YtijaefmaceolbaaGreatDoor.Tr
set_option linter.unusedVariables false
def strL (l : List UInt8) : ByteArray := ⟨l.toArray⟩
theorem strL_size (l : List UInt8) : (strL l).size = l.length := rfl
theorem strL_head (c : UInt8) (t : List UInt8) : 0 < (strL (c :: t)).size := by rw [strL_size]; simp
theorem strL_zero (c : UInt8) (t : List UInt8) (h : 0 < (strL (c :: t)).size) : (((strL (c :: t))[0]'h).toNat : Int) = (c.toNat : Int) := rfl
theorem strL_tail (c : UInt8) (t : List UInt8) : (strL (c :: t)).extract 1 (strL (c :: t)).size = strL t := by
  apply ByteArray.ext
  simp [strL, ByteArray.size]
def RdPost (w : World) (r : Option (Fm × List UInt8)) (e : Ending) (w' : World) : Prop :=
  Below w.heap.size w w' ∧ match r with
  | some (f, t) => e = .returned (.tuple #[encF f, .string (strL t)])
  | none => ∃ v, e = .returned (.tuple #[.nilIface, .string v])
set_option maxRecDepth 100000 in
theorem read_nil (n : Nat) (w : World) : Calls Tryz.prog 75 #[.string (strL []), .int .i64 (n : Int)] w (RdPost w none) := by
  have e : strL [] = ⟨#[]⟩ := rfl
  rw [e]
  go_enter Tryz.func75, Tryz.ntmps75
  go_wp2_with fail
  go_ret2
  exact ⟨Below.refl _ _, _, rfl⟩
set_option maxHeartbeats 1600000 in
set_option maxRecDepth 100000 in
theorem read_zero (n : Nat) (s s1 : ByteArray) (w : World) (h0 : 0 < s.size) (hz : ((s[0]'h0).toNat : Int) = 48) (ht : s.extract 1 s.size = s1) (hne : s.toList.isEmpty = false) :
    Calls Tryz.prog 75 #[.string s, .int .i64 (n : Int)] w fun e w' => Below w.heap.size w w' ∧ e = .returned (.tuple #[encF (.con false), .string s1]) := by
  go_enter Tryz.func75, Tryz.ntmps75
  go_wp2_with fail
  go_region
  go_wp2_with fail
  go_ret2
  exact ⟨below_drew (Below.refl _ _), rfl⟩
set_option maxHeartbeats 1600000 in
set_option maxRecDepth 100000 in
theorem read_one (n : Nat) (s s1 : ByteArray) (w : World) (h0 : 0 < s.size) (hz : ((s[0]'h0).toNat : Int) = 49) (ht : s.extract 1 s.size = s1) (hne : s.toList.isEmpty = false) :
    Calls Tryz.prog 75 #[.string s, .int .i64 (n : Int)] w fun e w' => Below w.heap.size w w' ∧ e = .returned (.tuple #[encF (.con true), .string s1]) := by
  go_enter Tryz.func75, Tryz.ntmps75
  go_wp2_with fail
  go_region
  go_wp2_with fail
  go_ret2
  exact ⟨below_drew (Below.refl _ _), rfl⟩
set_option maxHeartbeats 1600000 in
set_option maxRecDepth 100000 in
theorem read_letter (n : Nat) (s s1 : ByteArray) (w : World) (h0 : 0 < s.size) (x i : Nat) (hz : ((s[0]'h0).toNat : Int) = x) (hx : x = 97 + i) (hi : i < n) (h255 : x ≤ 255) (ht : s.extract 1 s.size = s1) (hne : s.toList.isEmpty = false) :
    Calls Tryz.prog 75 #[.string s, .int .i64 (n : Int)] w fun e w' => Below w.heap.size w w' ∧ e = .returned (.tuple #[encF (.lt i), .string s1]) := by
  have x0 : ((x : Int) == 48) = false := by rw [beq_eq_false_iff_ne]; omega
  have x1 : ((x : Int) == 49) = false := by rw [beq_eq_false_iff_ne]; omega
  have x2 : (97 : Int) ≤ (x : Int) := by omega
  have x4 : (x : Int) - 97 < (n : Int) := by omega
  have HX := Aside0.mk hx
  clear hx hi
  go_enter Tryz.func75, Tryz.ntmps75
  go_wp2_with fail
  go_region
  go_wp2_with fail
  go_ret2
  refine ⟨below_drew (Below.refl _ _), ?_⟩
  have e : (i : Int) = (x : Int) - 97 := by have := HX.out; omega
  simp only [encF]
  rw [e]
  rfl
set_option maxHeartbeats 1600000 in
set_option maxRecDepth 100000 in
theorem read_else (n : Nat) (s s1 : ByteArray) (w : World) (h0 : 0 < s.size) (x : Nat) (hz : ((s[0]'h0).toNat : Int) = x) (h1 : x ≠ 48) (h2 : x ≠ 49) (h3 : x ≠ 33) (h4 : x ≠ 40) (h5 : ¬ (97 ≤ x ∧ x - 97 < n)) (h255 : x ≤ 255) (ht : s.extract 1 s.size = s1) (hne : s.toList.isEmpty = false) :
    Calls Tryz.prog 75 #[.string s, .int .i64 (n : Int)] w fun e w' => Below w.heap.size w w' ∧ ∃ v, e = .returned (.tuple #[.nilIface, .string v]) := by
  have x0 : ((x : Int) == 48) = false := by rw [beq_eq_false_iff_ne]; omega
  have x1 : ((x : Int) == 49) = false := by rw [beq_eq_false_iff_ne]; omega
  have x2 : ((x : Int) == 33) = false := by rw [beq_eq_false_iff_ne]; omega
  have x3 : ((x : Int) == 40) = false := by rw [beq_eq_false_iff_ne]; omega
  go_enter Tryz.func75, Tryz.ntmps75
  go_wp2_with fail
  go_region
  go_wp2_with fail
  all_goals first | (exfalso; omega) | (go_ret2; exact ⟨below_drew (Below.refl _ _), _, rfl⟩)
set_option maxHeartbeats 1600000 in
set_option maxRecDepth 100000 in
theorem read_neg (n : Nat) (s s1 : ByteArray) (w : World) (h0 : 0 < s.size) (hz : ((s[0]'h0).toNat : Int) = 33) (ht : s.extract 1 s.size = s1) (hne : s.toList.isEmpty = false) (f : Fm) (s2 : ByteArray) (ih : ∀ w1, Calls Tryz.prog 75 #[.string s1, .int .i64 (n : Int)] w1 fun e w' => Below w1.heap.size w1 w' ∧ e = .returned (.tuple #[encF f, .string s2])) :
    Calls Tryz.prog 75 #[.string s, .int .i64 (n : Int)] w fun e w' => Below w.heap.size w w' ∧ e = .returned (.tuple #[encF (.neg f), .string s2]) := by
  have IH := Aside0.mk ih
  obtain ⟨t, v, he, _, _⟩ := enc_open f
  have he2 : encF (.neg f) = .iface 139 (.agg #[.iface t v]) := by rw [← he]; rfl
  rw [he2]
  rw [he] at IH
  clear ih he he2
  go_enter Tryz.func75, Tryz.ntmps75
  go_wp2_with fail
  go_region
  go_wp2_with (go_at_call 75; refine (IH.out _).mono ?_; rintro e w2 ⟨hb2, rfl⟩)
  go_ret2
  exact ⟨below_then (below_drew (Below.refl _ _)) (Nat.le_refl _) hb2, rfl⟩
set_option maxHeartbeats 1600000 in
set_option maxRecDepth 100000 in
theorem read_neg_none (n : Nat) (s s1 : ByteArray) (w : World) (h0 : 0 < s.size) (hz : ((s[0]'h0).toNat : Int) = 33) (ht : s.extract 1 s.size = s1) (hne : s.toList.isEmpty = false) (ih : ∀ w1, Calls Tryz.prog 75 #[.string s1, .int .i64 (n : Int)] w1 fun e w' => Below w1.heap.size w1 w' ∧ ∃ v, e = .returned (.tuple #[.nilIface, .string v])) :
    Calls Tryz.prog 75 #[.string s, .int .i64 (n : Int)] w fun e w' => Below w.heap.size w w' ∧ ∃ v, e = .returned (.tuple #[.nilIface, .string v]) := by
  have IH := Aside0.mk ih
  clear ih
  go_enter Tryz.func75, Tryz.ntmps75
  go_wp2_with fail
  go_region
  go_wp2_with (go_at_call 75; refine (IH.out _).mono ?_; rintro e w2 ⟨hb2, v2, rfl⟩)
  go_ret2
  exact ⟨below_then (below_drew (Below.refl _ _)) (Nat.le_refl _) hb2, _, rfl⟩
end Go.Proofs.YtijaefmaceolbaaGreatDoor.Im

namespace Go.Proofs.YtijaefmaceolbaaGreatDoor.Im
open Go.RowKit Go.Proofs.YtijaefmaceolbaaGreatDoorW.PrintWords Go.Proofs.YtijaefmaceolbaaGreatDoorW.PrintLast Go.Proofs.YtijaefmaceolbaaGreatDoorW.PrintMore Go.Proofs.YtijaefmaceolbaaGreatDoor.Tr
set_option linter.unusedVariables false
set_option maxHeartbeats 3200000 in
set_option maxRecDepth 100000 in
theorem pair_a (n : Nat) (s s1 : ByteArray) (w : World) (h0 : 0 < s.size) (hz : ((s[0]'h0).toNat : Int) = 40) (ht : s.extract 1 s.size = s1) (hne : s.toList.isEmpty = false)  (ih1 : ∀ w1, Calls Tryz.prog 75 #[.string s1, .int .i64 (n : Int)] w1 fun e w' => Below w1.heap.size w1 w' ∧ ∃ v, e = .returned (.tuple #[.nilIface, .string v])) :
    Calls Tryz.prog 75 #[.string s, .int .i64 (n : Int)] w fun e w' => Below w.heap.size w w' ∧ ∃ v, e = .returned (.tuple #[.nilIface, .string v]) := by
  have IH1 := Aside0.mk ih1
  clear ih1
  go_enter Tryz.func75, Tryz.ntmps75
  go_wp2_with fail
  go_region
  go_wp2_with (go_at_call 75; refine (IH1.out _).mono ?_; rintro e w2 ⟨hb2, v2, rfl⟩; have HB := Aside0.mk (below_then (below_drew (Below.refl w.heap.size w)) (Nat.le_refl _) hb2); clear hb2)
  go_ret2
  exact ⟨HB.out, _, rfl⟩
set_option maxHeartbeats 3200000 in
set_option maxRecDepth 100000 in
theorem pair_b (n : Nat) (s s1 : ByteArray) (w : World) (h0 : 0 < s.size) (hz : ((s[0]'h0).toNat : Int) = 40) (ht : s.extract 1 s.size = s1) (hne : s.toList.isEmpty = false) (l : Fm) (s2 : ByteArray) (ih1 : ∀ w1, Calls Tryz.prog 75 #[.string s1, .int .i64 (n : Int)] w1 fun e w' => Below w1.heap.size w1 w' ∧ e = .returned (.tuple #[encF l, .string s2])) (hne2 : s2.toList.isEmpty = true) :
    Calls Tryz.prog 75 #[.string s, .int .i64 (n : Int)] w fun e w' => Below w.heap.size w w' ∧ ∃ v, e = .returned (.tuple #[.nilIface, .string v]) := by
  have IH1 := Aside0.mk ih1
  clear ih1
  obtain ⟨tl, vl, hl, _, _⟩ := enc_open l
  rw [hl] at IH1
  clear hl
  go_enter Tryz.func75, Tryz.ntmps75
  go_wp2_with fail
  go_region
  go_wp2_with (go_at_call 75; refine (IH1.out _).mono ?_; rintro e w2 ⟨hb2, rfl⟩; have HB := Aside0.mk (below_then (below_drew (Below.refl w.heap.size w)) (Nat.le_refl _) hb2); clear hb2)
  go_ret2
  exact ⟨HB.out, _, rfl⟩
set_option maxHeartbeats 3200000 in
set_option maxRecDepth 100000 in
theorem pair_c (n : Nat) (s s1 : ByteArray) (w : World) (h0 : 0 < s.size) (hz : ((s[0]'h0).toNat : Int) = 40) (ht : s.extract 1 s.size = s1) (hne : s.toList.isEmpty = false) (l : Fm) (s2 s3 o1 : ByteArray) (o : Int) (ih1 : ∀ w1, Calls Tryz.prog 75 #[.string s1, .int .i64 (n : Int)] w1 fun e w' => Below w1.heap.size w1 w' ∧ e = .returned (.tuple #[encF l, .string s2])) (h2 : 0 < s2.size) (hz2 : ((s2[0]'h2).toNat : Int) = o) (ht2 : s2.extract 1 s2.size = s3) (hne2 : s2.toList.isEmpty = false) (hp2 : s2.extract 0 1 = o1) (ihc : ∀ w1, Calls Tryz.prog 94 #[.string ⟨#[38, 124, 61]⟩, .string o1] w1 fun e w' => Below w1.heap.size w1 w' ∧ e = .returned (.bool false)) :
    Calls Tryz.prog 75 #[.string s, .int .i64 (n : Int)] w fun e w' => Below w.heap.size w w' ∧ ∃ v, e = .returned (.tuple #[.nilIface, .string v]) := by
  have IH1 := Aside0.mk ih1
  clear ih1
  have IHC := Aside0.mk ihc
  clear ihc
  obtain ⟨tl, vl, hl, _, _⟩ := enc_open l
  rw [hl] at IH1
  clear hl
  go_enter Tryz.func75, Tryz.ntmps75
  go_wp2_with fail
  go_region
  go_wp2_with (go_at_call 75; refine (IH1.out _).mono ?_; rintro e w2 ⟨hb2, rfl⟩; have HB := Aside0.mk (below_then (below_drew (Below.refl w.heap.size w)) (Nat.le_refl _) hb2); clear hb2)
  all_goals try (go_wp2_with (go_at_call 94; refine (IHC.out _).mono ?_; rintro e w3 ⟨hb3, rfl⟩; have HB := Aside0.mk (below_then HB.out HB.out.size hb3); clear hb3))
  go_ret2
  exact ⟨HB.out, _, rfl⟩
set_option maxHeartbeats 3200000 in
set_option maxRecDepth 100000 in
theorem pair_d (n : Nat) (s s1 : ByteArray) (w : World) (h0 : 0 < s.size) (hz : ((s[0]'h0).toNat : Int) = 40) (ht : s.extract 1 s.size = s1) (hne : s.toList.isEmpty = false) (l : Fm) (s2 s3 o1 : ByteArray) (o : Int) (ih1 : ∀ w1, Calls Tryz.prog 75 #[.string s1, .int .i64 (n : Int)] w1 fun e w' => Below w1.heap.size w1 w' ∧ e = .returned (.tuple #[encF l, .string s2])) (h2 : 0 < s2.size) (hz2 : ((s2[0]'h2).toNat : Int) = o) (ht2 : s2.extract 1 s2.size = s3) (hne2 : s2.toList.isEmpty = false) (hp2 : s2.extract 0 1 = o1) (ihc : ∀ w1, Calls Tryz.prog 94 #[.string ⟨#[38, 124, 61]⟩, .string o1] w1 fun e w' => Below w1.heap.size w1 w' ∧ e = .returned (.bool true)) (ih2 : ∀ w1, Calls Tryz.prog 75 #[.string s3, .int .i64 (n : Int)] w1 fun e w' => Below w1.heap.size w1 w' ∧ ∃ v, e = .returned (.tuple #[.nilIface, .string v])) :
    Calls Tryz.prog 75 #[.string s, .int .i64 (n : Int)] w fun e w' => Below w.heap.size w w' ∧ ∃ v, e = .returned (.tuple #[.nilIface, .string v]) := by
  have IH1 := Aside0.mk ih1
  clear ih1
  have IHC := Aside0.mk ihc
  clear ihc
  have IH2 := Aside0.mk ih2
  clear ih2
  obtain ⟨tl, vl, hl, _, _⟩ := enc_open l
  rw [hl] at IH1
  clear hl
  go_enter Tryz.func75, Tryz.ntmps75
  go_wp2_with fail
  go_region
  go_wp2_with (go_at_call 75; refine (IH1.out _).mono ?_; rintro e w2 ⟨hb2, rfl⟩; have HB := Aside0.mk (below_then (below_drew (Below.refl w.heap.size w)) (Nat.le_refl _) hb2); clear hb2)
  all_goals try (go_wp2_with (go_at_call 94; refine (IHC.out _).mono ?_; rintro e w3 ⟨hb3, rfl⟩; have HB := Aside0.mk (below_then HB.out HB.out.size hb3); clear hb3))
  all_goals try (go_wp2_with (go_at_call 75; refine (IH2.out _).mono ?_; rintro e w4 ⟨hb4, v4, rfl⟩; have HB := Aside0.mk (below_then HB.out HB.out.size hb4); clear hb4))
  go_ret2
  exact ⟨HB.out, _, rfl⟩
set_option maxHeartbeats 3200000 in
set_option maxRecDepth 100000 in
theorem pair_e (n : Nat) (s s1 : ByteArray) (w : World) (h0 : 0 < s.size) (hz : ((s[0]'h0).toNat : Int) = 40) (ht : s.extract 1 s.size = s1) (hne : s.toList.isEmpty = false) (l r : Fm) (s2 s3 o1 s4 : ByteArray) (o : Int) (ih1 : ∀ w1, Calls Tryz.prog 75 #[.string s1, .int .i64 (n : Int)] w1 fun e w' => Below w1.heap.size w1 w' ∧ e = .returned (.tuple #[encF l, .string s2])) (h2 : 0 < s2.size) (hz2 : ((s2[0]'h2).toNat : Int) = o) (ht2 : s2.extract 1 s2.size = s3) (hne2 : s2.toList.isEmpty = false) (hp2 : s2.extract 0 1 = o1) (ihc : ∀ w1, Calls Tryz.prog 94 #[.string ⟨#[38, 124, 61]⟩, .string o1] w1 fun e w' => Below w1.heap.size w1 w' ∧ e = .returned (.bool true)) (ih2 : ∀ w1, Calls Tryz.prog 75 #[.string s3, .int .i64 (n : Int)] w1 fun e w' => Below w1.heap.size w1 w' ∧ e = .returned (.tuple #[encF r, .string s4])) (hne4 : s4.toList.isEmpty = true) :
    Calls Tryz.prog 75 #[.string s, .int .i64 (n : Int)] w fun e w' => Below w.heap.size w w' ∧ ∃ v, e = .returned (.tuple #[.nilIface, .string v]) := by
  have IH1 := Aside0.mk ih1
  clear ih1
  have IHC := Aside0.mk ihc
  clear ihc
  have IH2 := Aside0.mk ih2
  clear ih2
  obtain ⟨tl, vl, hl, _, _⟩ := enc_open l
  rw [hl] at IH1
  obtain ⟨tr, vr, hr, _, _⟩ := enc_open r
  rw [hr] at IH2
  clear hl
  clear hr
  go_enter Tryz.func75, Tryz.ntmps75
  go_wp2_with fail
  go_region
  go_wp2_with (go_at_call 75; refine (IH1.out _).mono ?_; rintro e w2 ⟨hb2, rfl⟩; have HB := Aside0.mk (below_then (below_drew (Below.refl w.heap.size w)) (Nat.le_refl _) hb2); clear hb2)
  all_goals try (go_wp2_with (go_at_call 94; refine (IHC.out _).mono ?_; rintro e w3 ⟨hb3, rfl⟩; have HB := Aside0.mk (below_then HB.out HB.out.size hb3); clear hb3))
  all_goals try (go_wp2_with (go_at_call 75; refine (IH2.out _).mono ?_; rintro e w4 ⟨hb4, rfl⟩; have HB := Aside0.mk (below_then HB.out HB.out.size hb4); clear hb4))
  go_ret2
  exact ⟨HB.out, _, rfl⟩
set_option maxHeartbeats 3200000 in
set_option maxRecDepth 100000 in
theorem pair_f (n : Nat) (s s1 : ByteArray) (w : World) (h0 : 0 < s.size) (hz : ((s[0]'h0).toNat : Int) = 40) (ht : s.extract 1 s.size = s1) (hne : s.toList.isEmpty = false) (l r : Fm) (s2 s3 o1 s4 s5 : ByteArray) (o d : Int) (ih1 : ∀ w1, Calls Tryz.prog 75 #[.string s1, .int .i64 (n : Int)] w1 fun e w' => Below w1.heap.size w1 w' ∧ e = .returned (.tuple #[encF l, .string s2])) (h2 : 0 < s2.size) (hz2 : ((s2[0]'h2).toNat : Int) = o) (ht2 : s2.extract 1 s2.size = s3) (hne2 : s2.toList.isEmpty = false) (hp2 : s2.extract 0 1 = o1) (ihc : ∀ w1, Calls Tryz.prog 94 #[.string ⟨#[38, 124, 61]⟩, .string o1] w1 fun e w' => Below w1.heap.size w1 w' ∧ e = .returned (.bool true)) (ih2 : ∀ w1, Calls Tryz.prog 75 #[.string s3, .int .i64 (n : Int)] w1 fun e w' => Below w1.heap.size w1 w' ∧ e = .returned (.tuple #[encF r, .string s4])) (h4 : 0 < s4.size) (hz4 : ((s4[0]'h4).toNat : Int) = d) (ht4 : s4.extract 1 s4.size = s5) (hne4 : s4.toList.isEmpty = false) (hd : (d != 41) = true) :
    Calls Tryz.prog 75 #[.string s, .int .i64 (n : Int)] w fun e w' => Below w.heap.size w w' ∧ ∃ v, e = .returned (.tuple #[.nilIface, .string v]) := by
  have IH1 := Aside0.mk ih1
  clear ih1
  have IHC := Aside0.mk ihc
  clear ihc
  have IH2 := Aside0.mk ih2
  clear ih2
  obtain ⟨tl, vl, hl, _, _⟩ := enc_open l
  rw [hl] at IH1
  obtain ⟨tr, vr, hr, _, _⟩ := enc_open r
  rw [hr] at IH2
  clear hl
  clear hr
  go_enter Tryz.func75, Tryz.ntmps75
  go_wp2_with fail
  go_region
  go_wp2_with (go_at_call 75; refine (IH1.out _).mono ?_; rintro e w2 ⟨hb2, rfl⟩; have HB := Aside0.mk (below_then (below_drew (Below.refl w.heap.size w)) (Nat.le_refl _) hb2); clear hb2)
  all_goals try (go_wp2_with (go_at_call 94; refine (IHC.out _).mono ?_; rintro e w3 ⟨hb3, rfl⟩; have HB := Aside0.mk (below_then HB.out HB.out.size hb3); clear hb3))
  all_goals try (go_wp2_with (go_at_call 75; refine (IH2.out _).mono ?_; rintro e w4 ⟨hb4, rfl⟩; have HB := Aside0.mk (below_then HB.out HB.out.size hb4); clear hb4))
  go_ret2
  exact ⟨HB.out, _, rfl⟩
set_option maxHeartbeats 3200000 in
set_option maxRecDepth 100000 in
theorem pair_g (n : Nat) (s s1 : ByteArray) (w : World) (h0 : 0 < s.size) (hz : ((s[0]'h0).toNat : Int) = 40) (ht : s.extract 1 s.size = s1) (hne : s.toList.isEmpty = false) (l r : Fm) (s2 s3 o1 s4 s5 : ByteArray) (o d : Int) (ih1 : ∀ w1, Calls Tryz.prog 75 #[.string s1, .int .i64 (n : Int)] w1 fun e w' => Below w1.heap.size w1 w' ∧ e = .returned (.tuple #[encF l, .string s2])) (h2 : 0 < s2.size) (hz2 : ((s2[0]'h2).toNat : Int) = o) (ht2 : s2.extract 1 s2.size = s3) (hne2 : s2.toList.isEmpty = false) (hp2 : s2.extract 0 1 = o1) (ihc : ∀ w1, Calls Tryz.prog 94 #[.string ⟨#[38, 124, 61]⟩, .string o1] w1 fun e w' => Below w1.heap.size w1 w' ∧ e = .returned (.bool true)) (ih2 : ∀ w1, Calls Tryz.prog 75 #[.string s3, .int .i64 (n : Int)] w1 fun e w' => Below w1.heap.size w1 w' ∧ e = .returned (.tuple #[encF r, .string s4])) (h4 : 0 < s4.size) (hz4 : ((s4[0]'h4).toNat : Int) = d) (ht4 : s4.extract 1 s4.size = s5) (hne4 : s4.toList.isEmpty = false) (hd : (d != 41) = false) :
    Calls Tryz.prog 75 #[.string s, .int .i64 (n : Int)] w fun e w' => Below w.heap.size w w' ∧ e = .returned (.tuple #[.iface 141 (.agg #[encF l, encF r, .int .u8 o]), .string s5]) := by
  have IH1 := Aside0.mk ih1
  clear ih1
  have IHC := Aside0.mk ihc
  clear ihc
  have IH2 := Aside0.mk ih2
  clear ih2
  obtain ⟨tl, vl, hl, _, _⟩ := enc_open l
  rw [hl] at IH1
  obtain ⟨tr, vr, hr, _, _⟩ := enc_open r
  rw [hr] at IH2
  rw [hl, hr]
  clear hl
  clear hr
  go_enter Tryz.func75, Tryz.ntmps75
  go_wp2_with fail
  go_region
  go_wp2_with (go_at_call 75; refine (IH1.out _).mono ?_; rintro e w2 ⟨hb2, rfl⟩; have HB := Aside0.mk (below_then (below_drew (Below.refl w.heap.size w)) (Nat.le_refl _) hb2); clear hb2)
  all_goals try (go_wp2_with (go_at_call 94; refine (IHC.out _).mono ?_; rintro e w3 ⟨hb3, rfl⟩; have HB := Aside0.mk (below_then HB.out HB.out.size hb3); clear hb3))
  all_goals try (go_wp2_with (go_at_call 75; refine (IH2.out _).mono ?_; rintro e w4 ⟨hb4, rfl⟩; have HB := Aside0.mk (below_then HB.out HB.out.size hb4); clear hb4))
  go_region
  go_wp2_with fail
  go_ret2
  exact ⟨below_drew HB.out, rfl⟩
end Go.Proofs.YtijaefmaceolbaaGreatDoor.Im

namespace Go.Proofs.YtijaefmaceolbaaGreatDoor.Im
open Go.RowKit Go.Proofs.YtijaefmaceolbaaGreatDoorW.PrintWords Go.Proofs.YtijaefmaceolbaaGreatDoorW.PrintLast Go.Proofs.YtijaefmaceolbaaGreatDoorW.PrintMore Go.Proofs.YtijaefmaceolbaaGreatDoor.Tr
set_option linter.unusedVariables false
theorem strL_list (l : List UInt8) : (strL l).toList = l := ByteArray.toList_mk _
theorem strL_full (c : UInt8) (t : List UInt8) : (strL (c :: t)).toList.isEmpty = false := by rw [strL_list]; rfl
theorem strL_none : (strL []).toList.isEmpty = true := by rw [strL_list]; rfl
theorem strL_one (c : UInt8) (t : List UInt8) : (strL (c :: t)).extract 0 1 = strL [c] := by
  apply ByteArray.ext
  simp [strL]
def HasC : Prop := ∀ (o : UInt8) (w : World), Calls Tryz.prog 94 #[.string ⟨#[38, 124, 61]⟩, .string (strL [o])] w fun e w' => Below w.heap.size w w' ∧ e = .returned (.bool (opOf o).isSome)
theorem u8_ne {c d : UInt8} (h : c ≠ d) : c.toNat ≠ d.toNat := fun e => h (UInt8.toNat_inj.1 e)
theorem read_any (hC : HasC) (n : Nat) : ∀ (k : Nat) (l : List UInt8) (w : World), l.length < k → Calls Tryz.prog 75 #[.string (strL l), .int .i64 (n : Int)] w (RdPost w (Tr.rdF n k l))
  | 0, l, w, h => absurd h (by omega)
  | k + 1, [], w, h => read_nil n w
  | k + 1, c :: t, w, h => by
    have ht : t.length < k := by simpa using h
    have ih := fun w1 => read_any hC n k t w1 ht
    have h0 := strL_head c t
    have hz := strL_zero c t h0
    have hx := strL_tail c t
    have hf := strL_full c t
    have c255 : c.toNat ≤ 255 := by have := c.toNat_lt; omega
    by_cases c1 : c = 48
    · have e : Tr.rdF n (k + 1) (c :: t) = some (.con false, t) := by rw [Tr.rdF, if_pos c1]
      rw [e]
      exact read_zero n _ _ w h0 (by rw [hz, c1]; rfl) hx hf
    by_cases c2 : c = 49
    · have e : Tr.rdF n (k + 1) (c :: t) = some (.con true, t) := by rw [Tr.rdF, if_neg c1, if_pos c2]
      rw [e]
      exact read_one n _ _ w h0 (by rw [hz, c2]; rfl) hx hf
    by_cases c3 : 97 ≤ c.toNat ∧ c.toNat - 97 < n
    · have e : Tr.rdF n (k + 1) (c :: t) = some (.lt (c.toNat - 97), t) := by rw [Tr.rdF, if_neg c1, if_neg c2, if_pos c3]
      rw [e]
      exact read_letter n _ _ w h0 c.toNat (c.toNat - 97) hz (by omega) c3.2 c255 hx hf
    by_cases c4 : c = 33
    · have hz' : (((strL (c :: t))[0]'h0).toNat : Int) = 33 := by rw [hz, c4]; rfl
      cases hr : Tr.rdF n k t with
      | none =>
        rw [hr] at ih
        rw [show Tr.rdF n (k + 1) (c :: t) = none from by rw [Tr.rdF, if_neg c1, if_neg c2, if_neg c3, if_pos c4]; simp [hr]]
        exact read_neg_none n _ _ w h0 hz' hx hf ih
      | some p =>
        obtain ⟨f, r⟩ := p
        rw [hr] at ih
        rw [show Tr.rdF n (k + 1) (c :: t) = some (.neg f, r) from by rw [Tr.rdF, if_neg c1, if_neg c2, if_neg c3, if_pos c4]; simp [hr]]
        exact read_neg n _ _ w h0 hz' hx hf f _ ih
    by_cases c5 : c = 40
    · have hz' : (((strL (c :: t))[0]'h0).toNat : Int) = 40 := by rw [hz, c5]; rfl
      cases hr : Tr.rdF n k t with
      | none =>
        rw [hr] at ih
        rw [show Tr.rdF n (k + 1) (c :: t) = none from by rw [Tr.rdF, if_neg c1, if_neg c2, if_neg c3, if_neg c4, if_pos c5]; simp [hr]]
        exact pair_a n _ _ w h0 hz' hx hf ih
      | some p =>
        obtain ⟨l, r⟩ := p
        rw [hr] at ih
        cases r with
        | nil =>
          rw [show Tr.rdF n (k + 1) (c :: t) = none from by rw [Tr.rdF, if_neg c1, if_neg c2, if_neg c3, if_neg c4, if_pos c5]; simp [hr]]
          exact pair_b n _ _ w h0 hz' hx hf l _ ih strL_none
        | cons o t2 =>
          have hl2 : t2.length < k := by
            obtain ⟨_, p, hp, _⟩ := rd_spec n k t l (o :: t2) hr
            have := congrArg List.length hp
            simp at this; omega
          have h2 := strL_head o t2
          cases ho : opOf o with
          | none =>
            rw [show Tr.rdF n (k + 1) (c :: t) = none from by rw [Tr.rdF, if_neg c1, if_neg c2, if_neg c3, if_neg c4, if_pos c5]; simp [hr, ho]]
            exact pair_c n _ _ w h0 hz' hx hf l _ _ _ _ ih h2 (strL_zero o t2 h2) (strL_tail o t2) (strL_full o t2) (strL_one o t2) (fun w1 => by have := hC o w1; rw [ho] at this; exact this)
          | some op =>
            have hc' : ∀ w1, Calls Tryz.prog 94 #[.string ⟨#[38, 124, 61]⟩, .string (strL [o])] w1 fun e w' => Below w1.heap.size w1 w' ∧ e = .returned (.bool true) := fun w1 => by have := hC o w1; rw [ho] at this; exact this
            have ih2 := fun w1 => read_any hC n k t2 w1 hl2
            cases hr2 : Tr.rdF n k t2 with
            | none =>
              rw [hr2] at ih2
              rw [show Tr.rdF n (k + 1) (c :: t) = none from by rw [Tr.rdF, if_neg c1, if_neg c2, if_neg c3, if_neg c4, if_pos c5]; simp [hr, ho, hr2]]
              exact pair_d n _ _ w h0 hz' hx hf l _ _ _ _ ih h2 (strL_zero o t2 h2) (strL_tail o t2) (strL_full o t2) (strL_one o t2) hc' ih2
            | some q =>
              obtain ⟨r, u⟩ := q
              rw [hr2] at ih2
              cases u with
              | nil =>
                rw [show Tr.rdF n (k + 1) (c :: t) = none from by rw [Tr.rdF, if_neg c1, if_neg c2, if_neg c3, if_neg c4, if_pos c5]; simp [hr, ho, hr2]]
                exact pair_e n _ _ w h0 hz' hx hf l r _ _ _ _ _ ih h2 (strL_zero o t2 h2) (strL_tail o t2) (strL_full o t2) (strL_one o t2) hc' ih2 strL_none
              | cons d t3 =>
                have h4 := strL_head d t3
                by_cases hd : d = 41
                · have hd' : (((d.toNat : Nat) : Int) != 41) = false := by rw [hd]; rfl
                  have := pair_g n _ _ w h0 hz' hx hf l r _ _ _ _ _ _ _ ih h2 (strL_zero o t2 h2) (strL_tail o t2) (strL_full o t2) (strL_one o t2) hc' ih2 h4 (strL_zero d t3 h4) (strL_tail d t3) (strL_full d t3) hd'
                  rw [show Tr.rdF n (k + 1) (c :: t) = some (.bin op l r, t3) from by rw [Tr.rdF, if_neg c1, if_neg c2, if_neg c3, if_neg c4, if_pos c5]; simp [hr, ho, hr2, hd]]
                  have he := opOf_some ho
                  exact this.mono fun e w' ⟨q1, q2⟩ => ⟨q1, by rw [q2, he]; rfl⟩
                · have hd' : (((d.toNat : Nat) : Int) != 41) = true := by
                    rw [bne_iff_ne]
                    intro e
                    exact u8_ne hd (by exact_mod_cast e)
                  rw [show Tr.rdF n (k + 1) (c :: t) = none from by rw [Tr.rdF, if_neg c1, if_neg c2, if_neg c3, if_neg c4, if_pos c5]; simp [hr, ho, hr2, hd]]
                  exact pair_f n _ _ w h0 hz' hx hf l r _ _ _ _ _ _ _ ih h2 (strL_zero o t2 h2) (strL_tail o t2) (strL_full o t2) (strL_one o t2) hc' ih2 h4 (strL_zero d t3 h4) (strL_tail d t3) (strL_full d t3) hd'
    · have e : Tr.rdF n (k + 1) (c :: t) = none := by rw [Tr.rdF, if_neg c1, if_neg c2, if_neg c3, if_neg c4, if_neg c5]
      rw [e]
      exact read_else n _ _ w h0 c.toNat hz (u8_ne c1) (u8_ne c2) (u8_ne c4) (u8_ne c5) c3 c255 hx hf
end Go.Proofs.YtijaefmaceolbaaGreatDoor.Im

namespace Go.Proofs.YtijaefmaceolbaaGreatDoor.Im
open Go.RowKit Go.Proofs.YtijaefmaceolbaaGreatDoorW.PrintWords Go.Proofs.YtijaefmaceolbaaGreatDoorW.PrintLast Go.Proofs.YtijaefmaceolbaaGreatDoorW.PrintMore Go.Proofs.YtijaefmaceolbaaGreatDoor.Tr
set_option linter.unusedVariables false
set_option maxRecDepth 100000 in
theorem parse_long (n : Nat) (s : ByteArray) (w : World) (h : (40 : Int) < s.size) : Calls Tryz.prog 55 #[.string s, .int .i64 (n : Int)] w fun e w' => Below w.heap.size w w' ∧ e = .returned (.tuple #[.nilIface, .int .i64 3]) := by
  go_enter Tryz.func55, Tryz.ntmps55
  go_wp2_with fail
  go_ret2
  exact ⟨Below.refl _ _, rfl⟩
set_option maxRecDepth 100000 in
theorem parse_none (n : Nat) (s : ByteArray) (w : World) (h : ¬ (40 : Int) < s.size) (ih : ∀ w1, Calls Tryz.prog 75 #[.string s, .int .i64 (n : Int)] w1 fun e w' => Below w1.heap.size w1 w' ∧ ∃ v, e = .returned (.tuple #[.nilIface, .string v])) :
    Calls Tryz.prog 55 #[.string s, .int .i64 (n : Int)] w fun e w' => Below w.heap.size w w' ∧ e = .returned (.tuple #[.nilIface, .int .i64 5]) := by
  have IH := Aside0.mk ih
  clear ih
  go_enter Tryz.func55, Tryz.ntmps55
  go_wp2_with (go_at_call 75; refine (IH.out _).mono ?_; rintro e w2 ⟨hb2, v2, rfl⟩; have HB := Aside0.mk hb2; clear hb2)
  go_ret2
  exact ⟨HB.out, rfl⟩
set_option maxRecDepth 100000 in
theorem parse_rest (n : Nat) (s s2 : ByteArray) (f : Fm) (w : World) (h : ¬ (40 : Int) < s.size) (hne : s2.toList.isEmpty = false) (ih : ∀ w1, Calls Tryz.prog 75 #[.string s, .int .i64 (n : Int)] w1 fun e w' => Below w1.heap.size w1 w' ∧ e = .returned (.tuple #[encF f, .string s2])) :
    Calls Tryz.prog 55 #[.string s, .int .i64 (n : Int)] w fun e w' => Below w.heap.size w w' ∧ e = .returned (.tuple #[.nilIface, .int .i64 5]) := by
  have IH := Aside0.mk ih
  clear ih
  obtain ⟨t, v, he, _, _⟩ := enc_open f
  rw [he] at IH
  clear he
  go_enter Tryz.func55, Tryz.ntmps55
  go_wp2_with (go_at_call 75; refine (IH.out _).mono ?_; rintro e w2 ⟨hb2, rfl⟩; have HB := Aside0.mk hb2; clear hb2)
  go_ret2
  exact ⟨HB.out, rfl⟩
set_option maxRecDepth 100000 in
theorem parse_good (n : Nat) (s s2 : ByteArray) (f : Fm) (w : World) (h : ¬ (40 : Int) < s.size) (hne : s2.toList.isEmpty = true) (ih : ∀ w1, Calls Tryz.prog 75 #[.string s, .int .i64 (n : Int)] w1 fun e w' => Below w1.heap.size w1 w' ∧ e = .returned (.tuple #[encF f, .string s2])) :
    Calls Tryz.prog 55 #[.string s, .int .i64 (n : Int)] w fun e w' => Below w.heap.size w w' ∧ e = .returned (.tuple #[encF f, .int .i64 0]) := by
  have IH := Aside0.mk ih
  clear ih
  obtain ⟨t, v, he, _, _⟩ := enc_open f
  rw [he] at IH ⊢
  clear he
  go_enter Tryz.func55, Tryz.ntmps55
  go_wp2_with (go_at_call 75; refine (IH.out _).mono ?_; rintro e w2 ⟨hb2, rfl⟩; have HB := Aside0.mk hb2; clear hb2)
  go_ret2
  exact ⟨HB.out, rfl⟩
def parseV (n : Nat) (l : List UInt8) : Value := if parseE n l = 0 then encF ((parseO n l).getD (.con false)) else .nilIface
theorem parse_any (hC : HasC) (n : Nat) (l : List UInt8) (w : World) : Calls Tryz.prog 55 #[.string (strL l), .int .i64 (n : Int)] w fun e w' => Below w.heap.size w w' ∧ e = .returned (.tuple #[parseV n l, .int .i64 (parseE n l)]) := by
  by_cases h : 40 < l.length
  · have e : parseE n l = 3 := by unfold parseE; rw [if_pos h]
    have e2 : parseV n l = .nilIface := by unfold parseV; rw [e]; rfl
    rw [e, e2]
    exact parse_long n _ w (by rw [strL_size]; exact_mod_cast h)
  have h' : ¬ (40 : Int) < (strL l).size := by rw [strL_size]; exact_mod_cast h
  have ih := fun w1 => read_any hC n (l.length + 1) l w1 (Nat.lt_succ_self _)
  cases hr : Tr.rdF n (l.length + 1) l with
  | none =>
    rw [hr] at ih
    have eo : parseO n l = none := by unfold parseO; simp [hr]
    have e : parseE n l = 5 := by unfold parseE; rw [if_neg h, eo]; rfl
    have e2 : parseV n l = .nilIface := by unfold parseV; rw [e]; rfl
    rw [e, e2]
    exact parse_none n _ w h' ih
  | some p =>
    obtain ⟨f, r⟩ := p
    rw [hr] at ih
    cases r with
    | nil =>
      have eo : parseO n l = some f := by unfold parseO; simp [hr]
      have e : parseE n l = 0 := by unfold parseE; rw [if_neg h, eo]; rfl
      have e2 : parseV n l = encF f := by unfold parseV; rw [if_pos e, eo]; rfl
      rw [e, e2]
      exact parse_good n _ _ f w h' strL_none ih
    | cons c t =>
      have eo : parseO n l = none := by unfold parseO; simp [hr]
      have e : parseE n l = 5 := by unfold parseE; rw [if_neg h, eo]; rfl
      have e2 : parseV n l = .nilIface := by unfold parseV; rw [e]; rfl
      rw [e, e2]
      exact parse_rest n _ _ f w h' (strL_full c t) ih
end Go.Proofs.YtijaefmaceolbaaGreatDoor.Im

