/- Further parts of the same walk: contracts of the functions that the law reaches, each under the conditions that it states. -/
import Derived.Test.YtmobefgnkiboaaaDoorC3E
import Derived.Handy
namespace Go.Proofs.YtmobefgnkiboaaaDoor.Im
open Go.RowKit Go.Proofs.YtmobefgnkiboaaaDoorW.PrintWords Go.Proofs.YtmobefgnkiboaaaDoorW.PrintLast Go.Proofs.YtmobefgnkiboaaaDoorW.PrintMore Go.Proofs.YtmobefgnkiboaaaDoor.Tr
set_option linter.unusedVariables false
def encF : Fm → Value
  | .con b => .iface 107 (.int .u8 (if b then 49 else 48))
  | .lt i => .iface 108 (.int .i64 (i : Nat))
  | .neg f => .iface 110 (.agg #[encF f])
  | .bin k l r => .iface 112 (.agg #[encF l, encF r, .int .u8 ((opByte k).toNat : Nat)])
theorem encF_one (f : Fm) : (encF f).oneCell' = true := by cases f <;> rfl
def kF : Kd Fm := Kd.scalar encF encF_one
def payF : Fm → Value
  | .con b => .int .u8 (if b then 49 else 48)
  | .lt i => .int .i64 (i : Nat)
  | .neg f => .agg #[encF f]
  | .bin k l r => .agg #[encF l, encF r, .int .u8 ((opByte k).toNat : Nat)]
def valF : Fm → Nat
  | .con _ => 101
  | .lt _ => 103
  | .neg _ => 105
  | .bin _ _ _ => 108
def b3 (c : T3) : Int := (byte3 c).toNat
theorem b3_none : b3 none = 63 := rfl
theorem b3_zero : b3 (some false) = 48 := rfl
theorem b3_one : b3 (some true) = 49 := rfl
def strV (v : List T3) : ByteArray := ⟨(v.map byte3).toArray⟩
theorem strV_size (v : List T3) : (strV v).size = v.length := by simp [strV, ByteArray.size]
theorem bt_strV (v : List T3) (i : Nat) (h : i < v.length) : bt (strV v) (i : Int) = b3 (getV v i) := by
  have hs : i < (strV v).size := by rw [strV_size]; exact h
  have e : bt (strV v) (i : Int) = (((strV v)[i]'hs).toNat : Int) := by simp [bt, hs]
  rw [e]
  show ((((strV v).data[i]'hs).toNat : Nat) : Int) = _
  simp [strV, b3, getV, h]
theorem value_con (b : Bool) (v : ByteArray) (w : World) : Calls Tryd.prog 101 #[.int .u8 (if b then 49 else 48), .string v] w fun e w' => e = .returned (.int .u8 (if b then 49 else 48)) ∧ w' = w := by
  cases b
  · go_enter Tryd.func101, Tryd.ntmps101
    go_wp2_with fail
    go_ret
    exact ⟨rfl, rfl⟩
  · go_enter Tryd.func101, Tryd.ntmps101
    go_wp2_with fail
    go_ret
    exact ⟨rfl, rfl⟩
theorem value_lt (i : Nat) (s : ByteArray) (w : World) (h : (i : Int) < s.size) : Calls Tryd.prog 103 #[.int .i64 (i : Nat), .string s] w fun e w' => e = .returned (.int .u8 (bt s i)) ∧ w' = w := by
  have i0 : (0 : Int) ≤ i := by omega
  have hs : i < s.size := by omega
  have e : bt s (i : Int) = ((s[i]'hs).toNat : Int) := by simp [bt, hs]
  rw [e]
  clear e
  go_enter Tryd.func103, Tryd.ntmps103
  go_wp2_with fail
  go_ret
  exact ⟨rfl, rfl⟩
theorem opposite_any (c : T3) (w : World) : Calls Tryd.prog 106 #[.int .u8 (b3 c)] w fun e w' => e = .returned (.int .u8 (b3 (not3 c))) ∧ w' = w := by
  rcases c with _ | (_ | _)
  · rw [b3_none]
    go_enter Tryd.func106, Tryd.ntmps106
    go_wp2_with fail
    go_ret
    exact ⟨rfl, rfl⟩
  · rw [b3_zero]
    go_enter Tryd.func106, Tryd.ntmps106
    go_wp2_with fail
    go_ret
    exact ⟨rfl, rfl⟩
  · rw [b3_one]
    go_enter Tryd.func106, Tryd.ntmps106
    go_wp2_with fail
    go_ret
    exact ⟨rfl, rfl⟩
end Go.Proofs.YtmobefgnkiboaaaDoor.Im

namespace Go.Proofs.YtmobefgnkiboaaaDoor.Im
open Go.RowKit Go.Proofs.YtmobefgnkiboaaaDoorW.PrintWords Go.Proofs.YtmobefgnkiboaaaDoorW.PrintLast Go.Proofs.YtmobefgnkiboaaaDoorW.PrintMore Go.Proofs.YtmobefgnkiboaaaDoor.Tr
set_option linter.unusedVariables false
theorem enc_open (f : Fm) : ∃ (t : TypeId) (v : Value), encF f = .iface t v ∧ (∀ w, (method 245 t v "pomade/truth.value").run Tryd.prog w = .ok (valF f, payF f) w) ∧
    ∀ (args : Array Value) (w : World), (callFunc (valF f) args).run Tryd.prog w = .ok (.enter (valF f) args) w := by
  cases f with
  | con b => exact ⟨_, _, rfl, fun w => by kernel_rfl, fun args w => by kernel_rfl⟩
  | lt i => exact ⟨_, _, rfl, fun w => by kernel_rfl, fun args w => by kernel_rfl⟩
  | neg f => exact ⟨_, _, rfl, fun w => by kernel_rfl, fun args w => by kernel_rfl⟩
  | bin k l r => exact ⟨_, _, rfl, fun w => by kernel_rfl, fun args w => by kernel_rfl⟩
def ValPost (w : World) (c : T3) (e : Ending) (w' : World) : Prop := e = .returned (.int .u8 (b3 c)) ∧ Below w.heap.size w w'
set_option maxRecDepth 100000 in
theorem value_neg (f : Fm) (s : ByteArray) (w : World) (c : T3) (h : ∀ w1, Calls Tryd.prog (valF f) #[payF f, .string s] w1 (ValPost w1 c)) :
    Calls Tryd.prog 105 #[.agg #[encF f], .string s] w (ValPost w (not3 c)) := by
  obtain ⟨t, v, he, hm, hc⟩ := enc_open f
  rw [he]
  generalize valF f = φ at *
  generalize payF f = π at *
  have HH := Aside0.mk h
  clear h he
  go_enter Tryd.func105, Tryd.ntmps105
  go_wp2_with fail
  refine (HH.out _).mono ?_
  rintro e w1 ⟨rfl, hb1⟩
  go_wp2_with (go_at_call 106; refine (opposite_any c _).mono ?_; rintro e w2 ⟨rfl, rfl⟩)
  go_ret
  exact ⟨rfl, below_then (below_alloc (Below.refl _ _) _) (by simp) hb1⟩
end Go.Proofs.YtmobefgnkiboaaaDoor.Im

namespace Go.Proofs.YtmobefgnkiboaaaDoor.Im
open Go.RowKit Go.Proofs.YtmobefgnkiboaaaDoorW.PrintWords Go.Proofs.YtmobefgnkiboaaaDoorW.PrintLast Go.Proofs.YtmobefgnkiboaaaDoorW.PrintMore Go.Proofs.YtmobefgnkiboaaaDoor.Tr
set_option linter.unusedVariables false
set_option maxHeartbeats 1600000 in
set_option maxRecDepth 100000 in
theorem value_bin (k : Tr.Op) (l r : Fm) (s : ByteArray) (w : World) (c d : T3) (hl : ∀ w1, Calls Tryd.prog (valF l) #[payF l, .string s] w1 (ValPost w1 c)) (hr : ∀ w1, Calls Tryd.prog (valF r) #[payF r, .string s] w1 (ValPost w1 d)) :
    Calls Tryd.prog 108 #[.agg #[encF l, encF r, .int .u8 ((opByte k).toNat : Nat)], .string s] w (ValPost w (op3 k c d)) := by
  obtain ⟨t, v, he, hm, hc⟩ := enc_open l
  obtain ⟨t', v', he', hm', hc'⟩ := enc_open r
  rw [he, he']
  obtain ⟨o, ho⟩ : ∃ o : Int, (((opByte k).toNat : Nat) : Int) = o := ⟨_, rfl⟩
  rw [ho]
  generalize valF l = φ at *
  generalize payF l = π at *
  generalize valF r = ψ at *
  generalize payF r = κ at *
  have HL := Aside0.mk hl
  have HR := Aside0.mk hr
  clear hl hr he he'
  go_enter Tryd.func108, Tryd.ntmps108
  go_wp2_with fail
  have hnew : Blk (w.alloc (.cells #[.iface t v, .iface t' v', .int .u8 o] 112)) w.heap.size 112 #[.iface t v, .iface t' v', .int .u8 o] := Blk.new _ _ _
  have hbel : Below w.heap.size w (w.alloc (.cells #[.iface t v, .iface t' v', .int .u8 o] 112)) := below_alloc (Below.refl _ _) _
  have hS : ∀ w', Blk w' w.heap.size 112 #[.iface t v, .iface t' v', .int .u8 o] → Below w.heap.size w w' → w'.drew.cell? ⟨w.heap.size, 0, none⟩ = some (.iface t v) ∧ w'.drew.cell? ⟨w.heap.size, 1, none⟩ = some (.iface t' v') ∧ Blk w'.drew w.heap.size 112 #[.iface t v, .iface t' v', .int .u8 o] ∧ Below w.heap.size w w'.drew :=
    fun w' h1 h2 => ⟨(Blk.drew h1).cell 0, (Blk.drew h1).cell 1, Blk.drew h1, below_drew h2⟩
  have hS' : ∀ w', Blk w' w.heap.size 112 #[.iface t v, .iface t' v', .int .u8 o] → Below w.heap.size w w' → w'.cell? ⟨w.heap.size, 0, none⟩ = some (.iface t v) ∧ w'.cell? ⟨w.heap.size, 1, none⟩ = some (.iface t' v') ∧ Blk w' w.heap.size 112 #[.iface t v, .iface t' v', .int .u8 o] ∧ Below w.heap.size w w' :=
    fun w' h1 h2 => ⟨h1.cell 0, h1.cell 1, h1, h2⟩
  go_region_held3 (fun w' => w'.cell? ⟨w.heap.size, 0, none⟩ = some (.iface t v) ∧ w'.cell? ⟨w.heap.size, 1, none⟩ = some (.iface t' v') ∧ Blk w' w.heap.size 112 #[.iface t v, .iface t' v', .int .u8 o] ∧ Below w.heap.size w w') (first | exact hS _ hnew hbel | exact hS' _ hnew2 hbel2 | go_keep)
    (first
      | (refine (HL.out _).mono ?_; rintro e w2 ⟨rfl, hb2⟩; first | (have hnew2 := Blk.later hnew2 hb2; have hbel2 := below_then hbel2 hbel2.size hb2) | (have hnew2 := Blk.later (Blk.drew hnew) hb2; have hbel2 := below_then (below_drew hbel) (below_drew hbel).size hb2))
      | (refine (HR.out _).mono ?_; rintro e w2 ⟨rfl, hb2⟩; first | (have hnew2 := Blk.later hnew2 hb2; have hbel2 := below_then hbel2 hbel2.size hb2) | (have hnew2 := Blk.later (Blk.drew hnew) hb2; have hbel2 := below_then (below_drew hbel) (below_drew hbel).size hb2)))
  have c2 : w2.cell? ⟨w.heap.size, 2, none⟩ = some (.int .u8 o) := hnew2.cell 2
  subst ho
  clear hS hS' hnew hnew2 hbel HL HR hm hm' hc hc'
  rcases c with _ | (_ | _) <;> rcases d with _ | (_ | _) <;> cases k <;> simp only [b3_none, b3_zero, b3_one] <;>
    (simp only [opByte] at c2; go_wp2_with fail; go_ret; exact ⟨rfl, hbel2⟩)
theorem value_any {n : Nat} {v : List T3} (hl : v.length = n) : ∀ (f : Fm) (w : World), f.low n → Calls Tryd.prog (valF f) #[payF f, .string (strV v)] w (ValPost w (ev (getV v) f))
  | .con b, w, _ => (value_con b (strV v) w).mono fun e w' ⟨h1, h2⟩ => ⟨by rw [h1]; cases b <;> rfl, by rw [h2]; exact Below.refl _ _⟩
  | .lt i, w, h => (value_lt i (strV v) w (by rw [strV_size, hl]; exact_mod_cast h)).mono fun e w' ⟨h1, h2⟩ => ⟨by rw [h1, bt_strV v i (by rw [hl]; exact h)]; rfl, by rw [h2]; exact Below.refl _ _⟩
  | .neg f, w, h => value_neg f (strV v) w _ fun w1 => value_any hl f w1 h
  | .bin k l r, w, h => value_bin k l r (strV v) w _ _ (fun w1 => value_any hl l w1 h.1) (fun w1 => value_any hl r w1 h.2)
end Go.Proofs.YtmobefgnkiboaaaDoor.Im

namespace Go.Proofs.YtmobefgnkiboaaaDoor.Im
open Go.RowKit Go.Proofs.YtmobefgnkiboaaaDoorW.PrintWords Go.Proofs.YtmobefgnkiboaaaDoorW.PrintLast Go.Proofs.YtmobefgnkiboaaaDoorW.PrintMore Go.Proofs.YtmobefgnkiboaaaDoor.Tr
attribute [local go_sem] max2_int min2_int max_two min_two max_three min_three max_four min_four
set_option linter.unusedVariables false
set_option linter.unusedSimpArgs false
theorem at_F {w : World} {A : Option Addr} {n : Nat} {fs : List Fm} (h : Kd.C kF w A n fs) (i : Nat) (h1 : i < n) : ∃ ad, A = some ad ∧ w.cell? (ad.add i) = some (encF (fmA fs i)) := by
  obtain ⟨ad, c, e, _, hK, hc⟩ := Kd.C_get h (.con false) (i : Int) (by omega) (by omega)
  have hK : c = [encF (fs.getD ((i : Int)).toNat (.con false))] := hK
  subst hK
  have := hc 0 _ rfl
  refine ⟨ad, e, ?_⟩
  rw [Int.toNat_natCast] at this
  have e2 : i * kF.sz + 0 = i := by show i * 1 + 0 = i; omega
  rw [e2] at this
  exact this
def nxtX (fs : List Fm) (v : List T3) (i : Nat) : List Int := ((nextV fs v).take i).map b3 ++ List.replicate (fs.length - i) 0
theorem nxtX_zero (fs : List Fm) (v : List T3) : nxtX fs v 0 = List.replicate fs.length 0 := by simp [nxtX]
theorem nxtX_set {fs : List Fm} {v : List T3} {i : Nat} (h : i < fs.length) : (nxtX fs v i).set i (b3 (ev (getV v) (fmA fs i))) = nxtX fs v (i + 1) := by
  have hn : i < (nextV fs v).length := by rw [nextV_len]; exact h
  have e : ev (getV v) (fmA fs i) = (nextV fs v)[i] := by
    have := getV_next (fs := fs) (v := v) h
    rw [← show ev (getV v) (fmA fs i) = ev (getV v) (fs.getD i (.con false)) from rfl] at this
    rw [← this]; simp [getV, hn]
  unfold nxtX
  rw [List.set_append_right _ _ (by simp; omega), List.take_succ_eq_append_getElem hn, List.map_append, List.append_assoc]
  congr 1
  have : i - ((nextV fs v).take i |>.map b3).length = 0 := by simp; omega
  rw [this, show fs.length - i = (fs.length - (i + 1)) + 1 by omega, List.replicate_succ, List.set_cons_zero, e]
  rfl
theorem nxtX_all (fs : List Fm) (v : List T3) : strOfNums (nxtX fs v fs.length) = strV (nextV fs v) := by
  have e : nxtX fs v fs.length = (nextV fs v).map b3 := by
    unfold nxtX
    rw [Nat.sub_self, List.take_of_length_le (by rw [nextV_len]; omega)]; simp
  rw [e]
  show (⟨(((nextV fs v).map b3).map fun n => UInt8.ofNat n.toNat).toArray⟩ : ByteArray) = ⟨((nextV fs v).map byte3).toArray⟩
  rw [List.map_map]
  congr 3
  funext c
  show UInt8.ofNat (b3 c).toNat = byte3 c
  rcases c with _ | (_ | _) <;> rfl
def NextPost (w : World) (r : ByteArray) (e : Ending) (w' : World) : Prop := e = .returned (.string r) ∧ Below w.heap.size w w'
set_option maxHeartbeats 3200000 in
set_option maxRecDepth 100000 in
theorem next_any {n : Nat} {fs : List Fm} (S : Tr.Sys n fs) {v : List T3} (hl : v.length = n) (w : World) (A : Option Addr) (c : Nat) (hr : Kd.C kF w A n fs) (hc : n ≤ c) :
    Calls Tryd.prog 25 #[.slice A n c, .string (strV v)] w (NextPost w (strV (nextV fs v))) := by
  have n10 := S.n10
  have len := S.len
  have n0 : (0 : Int) ≤ (n : Int) := by omega
  have HS := Aside0.mk S
  have HR := Aside0.mk hr
  have HV := Aside0.mk (fun (i : Nat) (w' : World) => value_any hl (fmA fs i) w' (fmA_low S i))
  have HB := Aside0.mk (Below.refl w.heap.size w)
  obtain ⟨s, hs⟩ : ∃ s, strV v = s := ⟨_, rfl⟩
  obtain ⟨R, hR⟩ : ∃ R, strV (nextV fs v) = R := ⟨_, rfl⟩
  rw [hs] at HV ⊢
  rw [hR]
  have HRR := Aside0.mk hR
  have LEN := Aside0.mk len
  clear hr S hs hR hl len
  go_enter Tryd.func25, Tryd.ntmps25
  go_wp2_with (first | ((with_reducible refine gate_dst (N := 10) rfl ?_); refine Kd.R_make (Kd.int .u8) _ 5 rfl (N := 10) rfl 71 _ _ rfl (n : Int) rfl rfl Tryd.underlying71 (.int .u8 0) 1 info5 rfl (by decide) (by omega) 0 (ok := fun _ => True) (okp := fun _ => True) rfl (fun _ hk => hk) trivial n0 (by omega) (Below.refl _ _) (Nat.le_refl _) ?_; intro v170 w5 ho6 hb hg_ hnew_; clear hg_ hnew_; rw [Int.toNat_natCast] at ho6; have HB := Aside0.mk (below_step HB.out hb); have HO := Aside0.mk (Kd.R_lower ho6 (Nat.le_refl _)); clear hb ho6))
  have hpos : 0 < (List.replicate n (0 : Int)).length := by rw [List.length_replicate]; exact HS.out.pos
  obtain ⟨go, co, e170, hgo, _, _⟩ := Kd.R_form HO.out hpos
  rw [List.length_replicate] at e170
  subst e170
  have hX0 : nxtX fs v 0 = List.replicate n 0 := by rw [nxtX_zero, LEN.out]
  rw [← hX0] at HO
  clear hX0 hpos
  go_loopw [13] (fun v13 wr => ∃ i : Nat, i ≤ n ∧ v13 = .int .i64 (i : Int) ∧ Aside0 (Kd.R (Kd.int .u8) 5 wr w.heap.size (fun _ => True) (.slice (some ⟨go, 0, none⟩) n co) (nxtX fs v i)) ∧ Aside0 (Below w.heap.size w wr)) (fun v13 _ => n - (intOf v13).toNat)
  case atStart => exact ⟨0, by omega, rfl, HO, HB⟩
  case round =>
    clear HB HO
    obtain ⟨i, hi, rfl, HX, HB⟩ := hrel
    have i0 : (0 : Int) ≤ (i : Int) := by omega
    by_cases hin : i < n
    · obtain ⟨ad, rfl, hcell⟩ := at_F (Kd.C_below HR.out HB.out) i hin
      obtain ⟨t, u, he, hm, hcf⟩ := enc_open (fmA fs i)
      have hset := Aside0.mk (nxtX_set (fs := fs) (v := v) (i := i) (by rw [LEN.out]; exact hin))
      have HVi := Aside0.mk (HV.out i)
      rw [he] at hcell
      generalize valF (fmA fs i) = φ at *
      generalize payF (fmA fs i) = π at *
      generalize ev (getV v) (fmA fs i) = x at *
      clear he HV
      have hin' : (i : Int) < (n : Int) := by omega
      go_wp2_with fail
      refine (HVi.out _).mono ?_
      rintro e w2 ⟨rfl, hb2⟩
      have HX2 := Aside0.mk (Kd.R_below HX.out hb2)
      have HB2 := Aside0.mk (below_then HB.out HB.out.size hb2)
      clear hb2 hcell
      obtain ⟨hx1, hf1⟩ := Kd.R_celln 0 HX2.out (i : Int) i0 hin'
      rw [Int.toNat_natCast] at hx1 hf1
      have HP := Aside0.mk (Kd.R_putg HX2.out (i : Int) (b3 x))
      go_wp2_with fail
      go_roundw
      case rel =>
        refine ⟨i + 1, by omega, by go_num, ⟨?_⟩, ⟨below_set HB2.out hgo⟩⟩
        have := HP.out.1
        rw [Int.toNat_natCast, hset.out] at this
        exact this
      case measure => simp [intOf]; omega
    · have hin' : ¬ ((i : Int) < (n : Int)) := by omega
      obtain rfl : n = i := by omega
      have hcv := own_string (P := Tryd.prog) Tryd.underlying71 Tryd.underlying5 Tryd.underlying9 (Kd.own_of_R HX.out)
      have hfin : strOfNums (nxtX fs v n) = R := by rw [← LEN.out, nxtX_all, HRR.out]
      rw [hfin] at hcv
      clear hin'
      go_wp2_with fail
      go_ret
      exact ⟨rfl, HB.out⟩
end Go.Proofs.YtmobefgnkiboaaaDoor.Im

namespace Go.Proofs.YtmobefgnkiboaaaDoor.Im
open Go.RowKit Go.Proofs.YtmobefgnkiboaaaDoorW.PrintWords Go.Proofs.YtmobefgnkiboaaaDoorW.PrintLast Go.Proofs.YtmobefgnkiboaaaDoorW.PrintMore Go.Proofs.YtmobefgnkiboaaaDoor.Tr
set_option linter.unusedVariables false
def strL (l : List UInt8) : ByteArray := ⟨l.toArray⟩
theorem strL_size (l : List UInt8) : (strL l).size = l.length := rfl
theorem strL_head (c : UInt8) (t : List UInt8) : 0 < (strL (c :: t)).size := by rw [strL_size]; simp
theorem strL_zero (c : UInt8) (t : List UInt8) (h : 0 < (strL (c :: t)).size) : (((strL (c :: t))[0]'h).toNat : Int) = (c.toNat : Int) := rfl
theorem strL_tail (c : UInt8) (t : List UInt8) : (strL (c :: t)).extract 1 (strL (c :: t)).size = strL t := by
  apply ByteArray.ext
  simp [strL, ByteArray.size]
def RdPost (w : World) (r : Option (Fm × List UInt8)) (e : Ending) (w' : World) : Prop :=
  Below w.heap.size w w' ∧ match r with
  | some (f, t) => e = .returned (.tuple #[encF f, .string (strL t)])
  | none => ∃ v, e = .returned (.tuple #[.nilIface, .string v])
set_option maxRecDepth 100000 in
theorem read_nil (n : Nat) (w : World) : Calls Tryd.prog 52 #[.string (strL []), .int .i64 (n : Int)] w (RdPost w none) := by
  have e : strL [] = ⟨#[]⟩ := rfl
  rw [e]
  go_enter Tryd.func52, Tryd.ntmps52
  go_wp2_with fail
  go_ret2
  exact ⟨Below.refl _ _, _, rfl⟩
set_option maxHeartbeats 1600000 in
set_option maxRecDepth 100000 in
theorem read_zero (n : Nat) (s s1 : ByteArray) (w : World) (h0 : 0 < s.size) (hz : ((s[0]'h0).toNat : Int) = 48) (ht : s.extract 1 s.size = s1) (hne : s.toList.isEmpty = false) :
    Calls Tryd.prog 52 #[.string s, .int .i64 (n : Int)] w fun e w' => Below w.heap.size w w' ∧ e = .returned (.tuple #[encF (.con false), .string s1]) := by
  go_enter Tryd.func52, Tryd.ntmps52
  go_wp2_with fail
  go_region
  go_wp2_with fail
  go_ret2
  exact ⟨below_drew (Below.refl _ _), rfl⟩
set_option maxHeartbeats 1600000 in
set_option maxRecDepth 100000 in
theorem read_one (n : Nat) (s s1 : ByteArray) (w : World) (h0 : 0 < s.size) (hz : ((s[0]'h0).toNat : Int) = 49) (ht : s.extract 1 s.size = s1) (hne : s.toList.isEmpty = false) :
    Calls Tryd.prog 52 #[.string s, .int .i64 (n : Int)] w fun e w' => Below w.heap.size w w' ∧ e = .returned (.tuple #[encF (.con true), .string s1]) := by
  go_enter Tryd.func52, Tryd.ntmps52
  go_wp2_with fail
  go_region
  go_wp2_with fail
  go_ret2
  exact ⟨below_drew (Below.refl _ _), rfl⟩
set_option maxHeartbeats 1600000 in
set_option maxRecDepth 100000 in
theorem read_letter (n : Nat) (s s1 : ByteArray) (w : World) (h0 : 0 < s.size) (x i : Nat) (hz : ((s[0]'h0).toNat : Int) = x) (hx : x = 97 + i) (hi : i < n) (h255 : x ≤ 255) (ht : s.extract 1 s.size = s1) (hne : s.toList.isEmpty = false) :
    Calls Tryd.prog 52 #[.string s, .int .i64 (n : Int)] w fun e w' => Below w.heap.size w w' ∧ e = .returned (.tuple #[encF (.lt i), .string s1]) := by
  have x0 : ((x : Int) == 48) = false := by rw [beq_eq_false_iff_ne]; omega
  have x1 : ((x : Int) == 49) = false := by rw [beq_eq_false_iff_ne]; omega
  have x2 : (97 : Int) ≤ (x : Int) := by omega
  have x4 : (x : Int) - 97 < (n : Int) := by omega
  have HX := Aside0.mk hx
  clear hx hi
  go_enter Tryd.func52, Tryd.ntmps52
  go_wp2_with fail
  go_region
  go_wp2_with fail
  go_ret2
  refine ⟨below_drew (Below.refl _ _), ?_⟩
  have e : (i : Int) = (x : Int) - 97 := by have := HX.out; omega
  simp only [encF]
  rw [e]
  rfl
set_option maxHeartbeats 1600000 in
set_option maxRecDepth 100000 in
theorem read_else (n : Nat) (s s1 : ByteArray) (w : World) (h0 : 0 < s.size) (x : Nat) (hz : ((s[0]'h0).toNat : Int) = x) (h1 : x ≠ 48) (h2 : x ≠ 49) (h3 : x ≠ 33) (h4 : x ≠ 40) (h5 : ¬ (97 ≤ x ∧ x - 97 < n)) (h255 : x ≤ 255) (ht : s.extract 1 s.size = s1) (hne : s.toList.isEmpty = false) :
    Calls Tryd.prog 52 #[.string s, .int .i64 (n : Int)] w fun e w' => Below w.heap.size w w' ∧ ∃ v, e = .returned (.tuple #[.nilIface, .string v]) := by
  have x0 : ((x : Int) == 48) = false := by rw [beq_eq_false_iff_ne]; omega
  have x1 : ((x : Int) == 49) = false := by rw [beq_eq_false_iff_ne]; omega
  have x2 : ((x : Int) == 33) = false := by rw [beq_eq_false_iff_ne]; omega
  have x3 : ((x : Int) == 40) = false := by rw [beq_eq_false_iff_ne]; omega
  go_enter Tryd.func52, Tryd.ntmps52
  go_wp2_with fail
  go_region
  go_wp2_with fail
  all_goals first | (exfalso; omega) | (go_ret2; exact ⟨below_drew (Below.refl _ _), _, rfl⟩)
set_option maxHeartbeats 1600000 in
set_option maxRecDepth 100000 in
theorem read_neg (n : Nat) (s s1 : ByteArray) (w : World) (h0 : 0 < s.size) (hz : ((s[0]'h0).toNat : Int) = 33) (ht : s.extract 1 s.size = s1) (hne : s.toList.isEmpty = false) (f : Fm) (s2 : ByteArray) (ih : ∀ w1, Calls Tryd.prog 52 #[.string s1, .int .i64 (n : Int)] w1 fun e w' => Below w1.heap.size w1 w' ∧ e = .returned (.tuple #[encF f, .string s2])) :
    Calls Tryd.prog 52 #[.string s, .int .i64 (n : Int)] w fun e w' => Below w.heap.size w w' ∧ e = .returned (.tuple #[encF (.neg f), .string s2]) := by
  have IH := Aside0.mk ih
  obtain ⟨t, v, he, _, _⟩ := enc_open f
  have he2 : encF (.neg f) = .iface 110 (.agg #[.iface t v]) := by rw [← he]; rfl
  rw [he2]
  rw [he] at IH
  clear ih he he2
  go_enter Tryd.func52, Tryd.ntmps52
  go_wp2_with fail
  go_region
  go_wp2_with (go_at_call 52; refine (IH.out _).mono ?_; rintro e w2 ⟨hb2, rfl⟩)
  go_ret2
  exact ⟨below_then (below_drew (Below.refl _ _)) (Nat.le_refl _) hb2, rfl⟩
set_option maxHeartbeats 1600000 in
set_option maxRecDepth 100000 in
theorem read_neg_none (n : Nat) (s s1 : ByteArray) (w : World) (h0 : 0 < s.size) (hz : ((s[0]'h0).toNat : Int) = 33) (ht : s.extract 1 s.size = s1) (hne : s.toList.isEmpty = false) (ih : ∀ w1, Calls Tryd.prog 52 #[.string s1, .int .i64 (n : Int)] w1 fun e w' => Below w1.heap.size w1 w' ∧ ∃ v, e = .returned (.tuple #[.nilIface, .string v])) :
    Calls Tryd.prog 52 #[.string s, .int .i64 (n : Int)] w fun e w' => Below w.heap.size w w' ∧ ∃ v, e = .returned (.tuple #[.nilIface, .string v]) := by
  have IH := Aside0.mk ih
  clear ih
  go_enter Tryd.func52, Tryd.ntmps52
  go_wp2_with fail
  go_region
  go_wp2_with (go_at_call 52; refine (IH.out _).mono ?_; rintro e w2 ⟨hb2, v2, rfl⟩)
  go_ret2
  exact ⟨below_then (below_drew (Below.refl _ _)) (Nat.le_refl _) hb2, _, rfl⟩
end Go.Proofs.YtmobefgnkiboaaaDoor.Im

namespace Go.Proofs.YtmobefgnkiboaaaDoor.Im
open Go.RowKit Go.Proofs.YtmobefgnkiboaaaDoorW.PrintWords Go.Proofs.YtmobefgnkiboaaaDoorW.PrintLast Go.Proofs.YtmobefgnkiboaaaDoorW.PrintMore Go.Proofs.YtmobefgnkiboaaaDoor.Tr
set_option linter.unusedVariables false
set_option maxHeartbeats 3200000 in
set_option maxRecDepth 100000 in
theorem pair_a (n : Nat) (s s1 : ByteArray) (w : World) (h0 : 0 < s.size) (hz : ((s[0]'h0).toNat : Int) = 40) (ht : s.extract 1 s.size = s1) (hne : s.toList.isEmpty = false)  (ih1 : ∀ w1, Calls Tryd.prog 52 #[.string s1, .int .i64 (n : Int)] w1 fun e w' => Below w1.heap.size w1 w' ∧ ∃ v, e = .returned (.tuple #[.nilIface, .string v])) :
    Calls Tryd.prog 52 #[.string s, .int .i64 (n : Int)] w fun e w' => Below w.heap.size w w' ∧ ∃ v, e = .returned (.tuple #[.nilIface, .string v]) := by
  have IH1 := Aside0.mk ih1
  clear ih1
  go_enter Tryd.func52, Tryd.ntmps52
  go_wp2_with fail
  go_region
  go_wp2_with (go_at_call 52; refine (IH1.out _).mono ?_; rintro e w2 ⟨hb2, v2, rfl⟩; have HB := Aside0.mk (below_then (below_drew (Below.refl w.heap.size w)) (Nat.le_refl _) hb2); clear hb2)
  go_ret2
  exact ⟨HB.out, _, rfl⟩
set_option maxHeartbeats 3200000 in
set_option maxRecDepth 100000 in
theorem pair_b (n : Nat) (s s1 : ByteArray) (w : World) (h0 : 0 < s.size) (hz : ((s[0]'h0).toNat : Int) = 40) (ht : s.extract 1 s.size = s1) (hne : s.toList.isEmpty = false) (l : Fm) (s2 : ByteArray) (ih1 : ∀ w1, Calls Tryd.prog 52 #[.string s1, .int .i64 (n : Int)] w1 fun e w' => Below w1.heap.size w1 w' ∧ e = .returned (.tuple #[encF l, .string s2])) (hne2 : s2.toList.isEmpty = true) :
    Calls Tryd.prog 52 #[.string s, .int .i64 (n : Int)] w fun e w' => Below w.heap.size w w' ∧ ∃ v, e = .returned (.tuple #[.nilIface, .string v]) := by
  have IH1 := Aside0.mk ih1
  clear ih1
  obtain ⟨tl, vl, hl, _, _⟩ := enc_open l
  rw [hl] at IH1
  clear hl
  go_enter Tryd.func52, Tryd.ntmps52
  go_wp2_with fail
  go_region
  go_wp2_with (go_at_call 52; refine (IH1.out _).mono ?_; rintro e w2 ⟨hb2, rfl⟩; have HB := Aside0.mk (below_then (below_drew (Below.refl w.heap.size w)) (Nat.le_refl _) hb2); clear hb2)
  go_ret2
  exact ⟨HB.out, _, rfl⟩
set_option maxHeartbeats 3200000 in
set_option maxRecDepth 100000 in
theorem pair_c (n : Nat) (s s1 : ByteArray) (w : World) (h0 : 0 < s.size) (hz : ((s[0]'h0).toNat : Int) = 40) (ht : s.extract 1 s.size = s1) (hne : s.toList.isEmpty = false) (l : Fm) (s2 s3 o1 : ByteArray) (o : Int) (ih1 : ∀ w1, Calls Tryd.prog 52 #[.string s1, .int .i64 (n : Int)] w1 fun e w' => Below w1.heap.size w1 w' ∧ e = .returned (.tuple #[encF l, .string s2])) (h2 : 0 < s2.size) (hz2 : ((s2[0]'h2).toNat : Int) = o) (ht2 : s2.extract 1 s2.size = s3) (hne2 : s2.toList.isEmpty = false) (hp2 : s2.extract 0 1 = o1) (ihc : ∀ w1, Calls Tryd.prog 65 #[.string ⟨#[38, 124, 61]⟩, .string o1] w1 fun e w' => Below w1.heap.size w1 w' ∧ e = .returned (.bool false)) :
    Calls Tryd.prog 52 #[.string s, .int .i64 (n : Int)] w fun e w' => Below w.heap.size w w' ∧ ∃ v, e = .returned (.tuple #[.nilIface, .string v]) := by
  have IH1 := Aside0.mk ih1
  clear ih1
  have IHC := Aside0.mk ihc
  clear ihc
  obtain ⟨tl, vl, hl, _, _⟩ := enc_open l
  rw [hl] at IH1
  clear hl
  go_enter Tryd.func52, Tryd.ntmps52
  go_wp2_with fail
  go_region
  go_wp2_with (go_at_call 52; refine (IH1.out _).mono ?_; rintro e w2 ⟨hb2, rfl⟩; have HB := Aside0.mk (below_then (below_drew (Below.refl w.heap.size w)) (Nat.le_refl _) hb2); clear hb2)
  all_goals try (go_wp2_with (go_at_call 65; refine (IHC.out _).mono ?_; rintro e w3 ⟨hb3, rfl⟩; have HB := Aside0.mk (below_then HB.out HB.out.size hb3); clear hb3))
  go_ret2
  exact ⟨HB.out, _, rfl⟩
set_option maxHeartbeats 3200000 in
set_option maxRecDepth 100000 in
theorem pair_d (n : Nat) (s s1 : ByteArray) (w : World) (h0 : 0 < s.size) (hz : ((s[0]'h0).toNat : Int) = 40) (ht : s.extract 1 s.size = s1) (hne : s.toList.isEmpty = false) (l : Fm) (s2 s3 o1 : ByteArray) (o : Int) (ih1 : ∀ w1, Calls Tryd.prog 52 #[.string s1, .int .i64 (n : Int)] w1 fun e w' => Below w1.heap.size w1 w' ∧ e = .returned (.tuple #[encF l, .string s2])) (h2 : 0 < s2.size) (hz2 : ((s2[0]'h2).toNat : Int) = o) (ht2 : s2.extract 1 s2.size = s3) (hne2 : s2.toList.isEmpty = false) (hp2 : s2.extract 0 1 = o1) (ihc : ∀ w1, Calls Tryd.prog 65 #[.string ⟨#[38, 124, 61]⟩, .string o1] w1 fun e w' => Below w1.heap.size w1 w' ∧ e = .returned (.bool true)) (ih2 : ∀ w1, Calls Tryd.prog 52 #[.string s3, .int .i64 (n : Int)] w1 fun e w' => Below w1.heap.size w1 w' ∧ ∃ v, e = .returned (.tuple #[.nilIface, .string v])) :
    Calls Tryd.prog 52 #[.string s, .int .i64 (n : Int)] w fun e w' => Below w.heap.size w w' ∧ ∃ v, e = .returned (.tuple #[.nilIface, .string v]) := by
  have IH1 := Aside0.mk ih1
  clear ih1
  have IHC := Aside0.mk ihc
  clear ihc
  have IH2 := Aside0.mk ih2
  clear ih2
  obtain ⟨tl, vl, hl, _, _⟩ := enc_open l
  rw [hl] at IH1
  clear hl
  go_enter Tryd.func52, Tryd.ntmps52
  go_wp2_with fail
  go_region
  go_wp2_with (go_at_call 52; refine (IH1.out _).mono ?_; rintro e w2 ⟨hb2, rfl⟩; have HB := Aside0.mk (below_then (below_drew (Below.refl w.heap.size w)) (Nat.le_refl _) hb2); clear hb2)
  all_goals try (go_wp2_with (go_at_call 65; refine (IHC.out _).mono ?_; rintro e w3 ⟨hb3, rfl⟩; have HB := Aside0.mk (below_then HB.out HB.out.size hb3); clear hb3))
  all_goals try (go_wp2_with (go_at_call 52; refine (IH2.out _).mono ?_; rintro e w4 ⟨hb4, v4, rfl⟩; have HB := Aside0.mk (below_then HB.out HB.out.size hb4); clear hb4))
  go_ret2
  exact ⟨HB.out, _, rfl⟩
set_option maxHeartbeats 3200000 in
set_option maxRecDepth 100000 in
theorem pair_e (n : Nat) (s s1 : ByteArray) (w : World) (h0 : 0 < s.size) (hz : ((s[0]'h0).toNat : Int) = 40) (ht : s.extract 1 s.size = s1) (hne : s.toList.isEmpty = false) (l r : Fm) (s2 s3 o1 s4 : ByteArray) (o : Int) (ih1 : ∀ w1, Calls Tryd.prog 52 #[.string s1, .int .i64 (n : Int)] w1 fun e w' => Below w1.heap.size w1 w' ∧ e = .returned (.tuple #[encF l, .string s2])) (h2 : 0 < s2.size) (hz2 : ((s2[0]'h2).toNat : Int) = o) (ht2 : s2.extract 1 s2.size = s3) (hne2 : s2.toList.isEmpty = false) (hp2 : s2.extract 0 1 = o1) (ihc : ∀ w1, Calls Tryd.prog 65 #[.string ⟨#[38, 124, 61]⟩, .string o1] w1 fun e w' => Below w1.heap.size w1 w' ∧ e = .returned (.bool true)) (ih2 : ∀ w1, Calls Tryd.prog 52 #[.string s3, .int .i64 (n : Int)] w1 fun e w' => Below w1.heap.size w1 w' ∧ e = .returned (.tuple #[encF r, .string s4])) (hne4 : s4.toList.isEmpty = true) :
    Calls Tryd.prog 52 #[.string s, .int .i64 (n : Int)] w fun e w' => Below w.heap.size w w' ∧ ∃ v, e = .returned (.tuple #[.nilIface, .string v]) := by
  have IH1 := Aside0.mk ih1
  clear ih1
  have IHC := Aside0.mk ihc
  clear ihc
  have IH2 := Aside0.mk ih2
  clear ih2
  obtain ⟨tl, vl, hl, _, _⟩ := enc_open l
  rw [hl] at IH1
  obtain ⟨tr, vr, hr, _, _⟩ := enc_open r
  rw [hr] at IH2
  clear hl
  clear hr
  go_enter Tryd.func52, Tryd.ntmps52
  go_wp2_with fail
  go_region
  go_wp2_with (go_at_call 52; refine (IH1.out _).mono ?_; rintro e w2 ⟨hb2, rfl⟩; have HB := Aside0.mk (below_then (below_drew (Below.refl w.heap.size w)) (Nat.le_refl _) hb2); clear hb2)
  all_goals try (go_wp2_with (go_at_call 65; refine (IHC.out _).mono ?_; rintro e w3 ⟨hb3, rfl⟩; have HB := Aside0.mk (below_then HB.out HB.out.size hb3); clear hb3))
  all_goals try (go_wp2_with (go_at_call 52; refine (IH2.out _).mono ?_; rintro e w4 ⟨hb4, rfl⟩; have HB := Aside0.mk (below_then HB.out HB.out.size hb4); clear hb4))
  go_ret2
  exact ⟨HB.out, _, rfl⟩
set_option maxHeartbeats 3200000 in
set_option maxRecDepth 100000 in
theorem pair_f (n : Nat) (s s1 : ByteArray) (w : World) (h0 : 0 < s.size) (hz : ((s[0]'h0).toNat : Int) = 40) (ht : s.extract 1 s.size = s1) (hne : s.toList.isEmpty = false) (l r : Fm) (s2 s3 o1 s4 s5 : ByteArray) (o d : Int) (ih1 : ∀ w1, Calls Tryd.prog 52 #[.string s1, .int .i64 (n : Int)] w1 fun e w' => Below w1.heap.size w1 w' ∧ e = .returned (.tuple #[encF l, .string s2])) (h2 : 0 < s2.size) (hz2 : ((s2[0]'h2).toNat : Int) = o) (ht2 : s2.extract 1 s2.size = s3) (hne2 : s2.toList.isEmpty = false) (hp2 : s2.extract 0 1 = o1) (ihc : ∀ w1, Calls Tryd.prog 65 #[.string ⟨#[38, 124, 61]⟩, .string o1] w1 fun e w' => Below w1.heap.size w1 w' ∧ e = .returned (.bool true)) (ih2 : ∀ w1, Calls Tryd.prog 52 #[.string s3, .int .i64 (n : Int)] w1 fun e w' => Below w1.heap.size w1 w' ∧ e = .returned (.tuple #[encF r, .string s4])) (h4 : 0 < s4.size) (hz4 : ((s4[0]'h4).toNat : Int) = d) (ht4 : s4.extract 1 s4.size = s5) (hne4 : s4.toList.isEmpty = false) (hd : (d != 41) = true) :
    Calls Tryd.prog 52 #[.string s, .int .i64 (n : Int)] w fun e w' => Below w.heap.size w w' ∧ ∃ v, e = .returned (.tuple #[.nilIface, .string v]) := by
  have IH1 := Aside0.mk ih1
  clear ih1
  have IHC := Aside0.mk ihc
  clear ihc
  have IH2 := Aside0.mk ih2
  clear ih2
  obtain ⟨tl, vl, hl, _, _⟩ := enc_open l
  rw [hl] at IH1
  obtain ⟨tr, vr, hr, _, _⟩ := enc_open r
  rw [hr] at IH2
  clear hl
  clear hr
  go_enter Tryd.func52, Tryd.ntmps52
  go_wp2_with fail
  go_region
  go_wp2_with (go_at_call 52; refine (IH1.out _).mono ?_; rintro e w2 ⟨hb2, rfl⟩; have HB := Aside0.mk (below_then (below_drew (Below.refl w.heap.size w)) (Nat.le_refl _) hb2); clear hb2)
  all_goals try (go_wp2_with (go_at_call 65; refine (IHC.out _).mono ?_; rintro e w3 ⟨hb3, rfl⟩; have HB := Aside0.mk (below_then HB.out HB.out.size hb3); clear hb3))
  all_goals try (go_wp2_with (go_at_call 52; refine (IH2.out _).mono ?_; rintro e w4 ⟨hb4, rfl⟩; have HB := Aside0.mk (below_then HB.out HB.out.size hb4); clear hb4))
  go_ret2
  exact ⟨HB.out, _, rfl⟩
set_option maxHeartbeats 3200000 in
set_option maxRecDepth 100000 in
theorem pair_g (n : Nat) (s s1 : ByteArray) (w : World) (h0 : 0 < s.size) (hz : ((s[0]'h0).toNat : Int) = 40) (ht : s.extract 1 s.size = s1) (hne : s.toList.isEmpty = false) (l r : Fm) (s2 s3 o1 s4 s5 : ByteArray) (o d : Int) (ih1 : ∀ w1, Calls Tryd.prog 52 #[.string s1, .int .i64 (n : Int)] w1 fun e w' => Below w1.heap.size w1 w' ∧ e = .returned (.tuple #[encF l, .string s2])) (h2 : 0 < s2.size) (hz2 : ((s2[0]'h2).toNat : Int) = o) (ht2 : s2.extract 1 s2.size = s3) (hne2 : s2.toList.isEmpty = false) (hp2 : s2.extract 0 1 = o1) (ihc : ∀ w1, Calls Tryd.prog 65 #[.string ⟨#[38, 124, 61]⟩, .string o1] w1 fun e w' => Below w1.heap.size w1 w' ∧ e = .returned (.bool true)) (ih2 : ∀ w1, Calls Tryd.prog 52 #[.string s3, .int .i64 (n : Int)] w1 fun e w' => Below w1.heap.size w1 w' ∧ e = .returned (.tuple #[encF r, .string s4])) (h4 : 0 < s4.size) (hz4 : ((s4[0]'h4).toNat : Int) = d) (ht4 : s4.extract 1 s4.size = s5) (hne4 : s4.toList.isEmpty = false) (hd : (d != 41) = false) :
    Calls Tryd.prog 52 #[.string s, .int .i64 (n : Int)] w fun e w' => Below w.heap.size w w' ∧ e = .returned (.tuple #[.iface 112 (.agg #[encF l, encF r, .int .u8 o]), .string s5]) := by
  have IH1 := Aside0.mk ih1
  clear ih1
  have IHC := Aside0.mk ihc
  clear ihc
  have IH2 := Aside0.mk ih2
  clear ih2
  obtain ⟨tl, vl, hl, _, _⟩ := enc_open l
  rw [hl] at IH1
  obtain ⟨tr, vr, hr, _, _⟩ := enc_open r
  rw [hr] at IH2
  rw [hl, hr]
  clear hl
  clear hr
  go_enter Tryd.func52, Tryd.ntmps52
  go_wp2_with fail
  go_region
  go_wp2_with (go_at_call 52; refine (IH1.out _).mono ?_; rintro e w2 ⟨hb2, rfl⟩; have HB := Aside0.mk (below_then (below_drew (Below.refl w.heap.size w)) (Nat.le_refl _) hb2); clear hb2)
  all_goals try (go_wp2_with (go_at_call 65; refine (IHC.out _).mono ?_; rintro e w3 ⟨hb3, rfl⟩; have HB := Aside0.mk (below_then HB.out HB.out.size hb3); clear hb3))
  all_goals try (go_wp2_with (go_at_call 52; refine (IH2.out _).mono ?_; rintro e w4 ⟨hb4, rfl⟩; have HB := Aside0.mk (below_then HB.out HB.out.size hb4); clear hb4))
  go_region
  go_wp2_with fail
  go_ret2
  exact ⟨below_drew HB.out, rfl⟩
end Go.Proofs.YtmobefgnkiboaaaDoor.Im

namespace Go.Proofs.YtmobefgnkiboaaaDoor.Im
open Go.RowKit Go.Proofs.YtmobefgnkiboaaaDoorW.PrintWords Go.Proofs.YtmobefgnkiboaaaDoorW.PrintLast Go.Proofs.YtmobefgnkiboaaaDoorW.PrintMore Go.Proofs.YtmobefgnkiboaaaDoor.Tr
set_option linter.unusedVariables false
theorem strL_list (l : List UInt8) : (strL l).toList = l := ByteArray.toList_mk _
theorem strL_full (c : UInt8) (t : List UInt8) : (strL (c :: t)).toList.isEmpty = false := by rw [strL_list]; rfl
theorem strL_none : (strL []).toList.isEmpty = true := by rw [strL_list]; rfl
theorem strL_one (c : UInt8) (t : List UInt8) : (strL (c :: t)).extract 0 1 = strL [c] := by
  apply ByteArray.ext
  simp [strL]
def HasC : Prop := ∀ (o : UInt8) (w : World), Calls Tryd.prog 65 #[.string ⟨#[38, 124, 61]⟩, .string (strL [o])] w fun e w' => Below w.heap.size w w' ∧ e = .returned (.bool (opOf o).isSome)
theorem u8_ne {c d : UInt8} (h : c ≠ d) : c.toNat ≠ d.toNat := fun e => h (UInt8.toNat_inj.1 e)
theorem read_any (hC : HasC) (n : Nat) : ∀ (k : Nat) (l : List UInt8) (w : World), l.length < k → Calls Tryd.prog 52 #[.string (strL l), .int .i64 (n : Int)] w (RdPost w (Tr.rdF n k l))
  | 0, l, w, h => absurd h (by omega)
  | k + 1, [], w, h => read_nil n w
  | k + 1, c :: t, w, h => by
    have ht : t.length < k := by simpa using h
    have ih := fun w1 => read_any hC n k t w1 ht
    have h0 := strL_head c t
    have hz := strL_zero c t h0
    have hx := strL_tail c t
    have hf := strL_full c t
    have c255 : c.toNat ≤ 255 := by have := c.toNat_lt; omega
    by_cases c1 : c = 48
    · have e : Tr.rdF n (k + 1) (c :: t) = some (.con false, t) := by rw [Tr.rdF, if_pos c1]
      rw [e]
      exact read_zero n _ _ w h0 (by rw [hz, c1]; rfl) hx hf
    by_cases c2 : c = 49
    · have e : Tr.rdF n (k + 1) (c :: t) = some (.con true, t) := by rw [Tr.rdF, if_neg c1, if_pos c2]
      rw [e]
      exact read_one n _ _ w h0 (by rw [hz, c2]; rfl) hx hf
    by_cases c3 : 97 ≤ c.toNat ∧ c.toNat - 97 < n
    · have e : Tr.rdF n (k + 1) (c :: t) = some (.lt (c.toNat - 97), t) := by rw [Tr.rdF, if_neg c1, if_neg c2, if_pos c3]
      rw [e]
      exact read_letter n _ _ w h0 c.toNat (c.toNat - 97) hz (by omega) c3.2 c255 hx hf
    by_cases c4 : c = 33
    · have hz' : (((strL (c :: t))[0]'h0).toNat : Int) = 33 := by rw [hz, c4]; rfl
      cases hr : Tr.rdF n k t with
      | none =>
        rw [hr] at ih
        rw [show Tr.rdF n (k + 1) (c :: t) = none from by rw [Tr.rdF, if_neg c1, if_neg c2, if_neg c3, if_pos c4]; simp [hr]]
        exact read_neg_none n _ _ w h0 hz' hx hf ih
      | some p =>
        obtain ⟨f, r⟩ := p
        rw [hr] at ih
        rw [show Tr.rdF n (k + 1) (c :: t) = some (.neg f, r) from by rw [Tr.rdF, if_neg c1, if_neg c2, if_neg c3, if_pos c4]; simp [hr]]
        exact read_neg n _ _ w h0 hz' hx hf f _ ih
    by_cases c5 : c = 40
    · have hz' : (((strL (c :: t))[0]'h0).toNat : Int) = 40 := by rw [hz, c5]; rfl
      cases hr : Tr.rdF n k t with
      | none =>
        rw [hr] at ih
        rw [show Tr.rdF n (k + 1) (c :: t) = none from by rw [Tr.rdF, if_neg c1, if_neg c2, if_neg c3, if_neg c4, if_pos c5]; simp [hr]]
        exact pair_a n _ _ w h0 hz' hx hf ih
      | some p =>
        obtain ⟨l, r⟩ := p
        rw [hr] at ih
        cases r with
        | nil =>
          rw [show Tr.rdF n (k + 1) (c :: t) = none from by rw [Tr.rdF, if_neg c1, if_neg c2, if_neg c3, if_neg c4, if_pos c5]; simp [hr]]
          exact pair_b n _ _ w h0 hz' hx hf l _ ih strL_none
        | cons o t2 =>
          have hl2 : t2.length < k := by
            obtain ⟨_, p, hp, _⟩ := rd_spec n k t l (o :: t2) hr
            have := congrArg List.length hp
            simp at this; omega
          have h2 := strL_head o t2
          cases ho : opOf o with
          | none =>
            rw [show Tr.rdF n (k + 1) (c :: t) = none from by rw [Tr.rdF, if_neg c1, if_neg c2, if_neg c3, if_neg c4, if_pos c5]; simp [hr, ho]]
            exact pair_c n _ _ w h0 hz' hx hf l _ _ _ _ ih h2 (strL_zero o t2 h2) (strL_tail o t2) (strL_full o t2) (strL_one o t2) (fun w1 => by have := hC o w1; rw [ho] at this; exact this)
          | some op =>
            have hc' : ∀ w1, Calls Tryd.prog 65 #[.string ⟨#[38, 124, 61]⟩, .string (strL [o])] w1 fun e w' => Below w1.heap.size w1 w' ∧ e = .returned (.bool true) := fun w1 => by have := hC o w1; rw [ho] at this; exact this
            have ih2 := fun w1 => read_any hC n k t2 w1 hl2
            cases hr2 : Tr.rdF n k t2 with
            | none =>
              rw [hr2] at ih2
              rw [show Tr.rdF n (k + 1) (c :: t) = none from by rw [Tr.rdF, if_neg c1, if_neg c2, if_neg c3, if_neg c4, if_pos c5]; simp [hr, ho, hr2]]
              exact pair_d n _ _ w h0 hz' hx hf l _ _ _ _ ih h2 (strL_zero o t2 h2) (strL_tail o t2) (strL_full o t2) (strL_one o t2) hc' ih2
            | some q =>
              obtain ⟨r, u⟩ := q
              rw [hr2] at ih2
              cases u with
              | nil =>
                rw [show Tr.rdF n (k + 1) (c :: t) = none from by rw [Tr.rdF, if_neg c1, if_neg c2, if_neg c3, if_neg c4, if_pos c5]; simp [hr, ho, hr2]]
                exact pair_e n _ _ w h0 hz' hx hf l r _ _ _ _ _ ih h2 (strL_zero o t2 h2) (strL_tail o t2) (strL_full o t2) (strL_one o t2) hc' ih2 strL_none
              | cons d t3 =>
                have h4 := strL_head d t3
                by_cases hd : d = 41
                · have hd' : (((d.toNat : Nat) : Int) != 41) = false := by rw [hd]; rfl
                  have := pair_g n _ _ w h0 hz' hx hf l r _ _ _ _ _ _ _ ih h2 (strL_zero o t2 h2) (strL_tail o t2) (strL_full o t2) (strL_one o t2) hc' ih2 h4 (strL_zero d t3 h4) (strL_tail d t3) (strL_full d t3) hd'
                  rw [show Tr.rdF n (k + 1) (c :: t) = some (.bin op l r, t3) from by rw [Tr.rdF, if_neg c1, if_neg c2, if_neg c3, if_neg c4, if_pos c5]; simp [hr, ho, hr2, hd]]
                  have he := opOf_some ho
                  exact this.mono fun e w' ⟨q1, q2⟩ => ⟨q1, by rw [q2, he]; rfl⟩
                · have hd' : (((d.toNat : Nat) : Int) != 41) = true := by
                    rw [bne_iff_ne]
                    intro e
                    exact u8_ne hd (by exact_mod_cast e)
                  rw [show Tr.rdF n (k + 1) (c :: t) = none from by rw [Tr.rdF, if_neg c1, if_neg c2, if_neg c3, if_neg c4, if_pos c5]; simp [hr, ho, hr2, hd]]
                  exact pair_f n _ _ w h0 hz' hx hf l r _ _ _ _ _ _ _ ih h2 (strL_zero o t2 h2) (strL_tail o t2) (strL_full o t2) (strL_one o t2) hc' ih2 h4 (strL_zero d t3 h4) (strL_tail d t3) (strL_full d t3) hd'
    · have e : Tr.rdF n (k + 1) (c :: t) = none := by rw [Tr.rdF, if_neg c1, if_neg c2, if_neg c3, if_neg c4, if_neg c5]
      rw [e]
      exact read_else n _ _ w h0 c.toNat hz (u8_ne c1) (u8_ne c2) (u8_ne c4) (u8_ne c5) c3 c255 hx hf
end Go.Proofs.YtmobefgnkiboaaaDoor.Im

namespace Go.Proofs.YtmobefgnkiboaaaDoor.Im
open Go.RowKit Go.Proofs.YtmobefgnkiboaaaDoorW.PrintWords Go.Proofs.YtmobefgnkiboaaaDoorW.PrintLast Go.Proofs.YtmobefgnkiboaaaDoorW.PrintMore Go.Proofs.YtmobefgnkiboaaaDoor.Tr
set_option linter.unusedVariables false
set_option maxRecDepth 100000 in
theorem parse_long (n : Nat) (s : ByteArray) (w : World) (h : (40 : Int) < s.size) : Calls Tryd.prog 40 #[.string s, .int .i64 (n : Int)] w fun e w' => Below w.heap.size w w' ∧ e = .returned (.tuple #[.nilIface, .int .i64 3]) := by
  go_enter Tryd.func40, Tryd.ntmps40
  go_wp2_with fail
  go_ret2
  exact ⟨Below.refl _ _, rfl⟩
set_option maxRecDepth 100000 in
theorem parse_none (n : Nat) (s : ByteArray) (w : World) (h : ¬ (40 : Int) < s.size) (ih : ∀ w1, Calls Tryd.prog 52 #[.string s, .int .i64 (n : Int)] w1 fun e w' => Below w1.heap.size w1 w' ∧ ∃ v, e = .returned (.tuple #[.nilIface, .string v])) :
    Calls Tryd.prog 40 #[.string s, .int .i64 (n : Int)] w fun e w' => Below w.heap.size w w' ∧ e = .returned (.tuple #[.nilIface, .int .i64 5]) := by
  have IH := Aside0.mk ih
  clear ih
  go_enter Tryd.func40, Tryd.ntmps40
  go_wp2_with (go_at_call 52; refine (IH.out _).mono ?_; rintro e w2 ⟨hb2, v2, rfl⟩; have HB := Aside0.mk hb2; clear hb2)
  go_ret2
  exact ⟨HB.out, rfl⟩
set_option maxRecDepth 100000 in
theorem parse_rest (n : Nat) (s s2 : ByteArray) (f : Fm) (w : World) (h : ¬ (40 : Int) < s.size) (hne : s2.toList.isEmpty = false) (ih : ∀ w1, Calls Tryd.prog 52 #[.string s, .int .i64 (n : Int)] w1 fun e w' => Below w1.heap.size w1 w' ∧ e = .returned (.tuple #[encF f, .string s2])) :
    Calls Tryd.prog 40 #[.string s, .int .i64 (n : Int)] w fun e w' => Below w.heap.size w w' ∧ e = .returned (.tuple #[.nilIface, .int .i64 5]) := by
  have IH := Aside0.mk ih
  clear ih
  obtain ⟨t, v, he, _, _⟩ := enc_open f
  rw [he] at IH
  clear he
  go_enter Tryd.func40, Tryd.ntmps40
  go_wp2_with (go_at_call 52; refine (IH.out _).mono ?_; rintro e w2 ⟨hb2, rfl⟩; have HB := Aside0.mk hb2; clear hb2)
  go_ret2
  exact ⟨HB.out, rfl⟩
set_option maxRecDepth 100000 in
theorem parse_good (n : Nat) (s s2 : ByteArray) (f : Fm) (w : World) (h : ¬ (40 : Int) < s.size) (hne : s2.toList.isEmpty = true) (ih : ∀ w1, Calls Tryd.prog 52 #[.string s, .int .i64 (n : Int)] w1 fun e w' => Below w1.heap.size w1 w' ∧ e = .returned (.tuple #[encF f, .string s2])) :
    Calls Tryd.prog 40 #[.string s, .int .i64 (n : Int)] w fun e w' => Below w.heap.size w w' ∧ e = .returned (.tuple #[encF f, .int .i64 0]) := by
  have IH := Aside0.mk ih
  clear ih
  obtain ⟨t, v, he, _, _⟩ := enc_open f
  rw [he] at IH ⊢
  clear he
  go_enter Tryd.func40, Tryd.ntmps40
  go_wp2_with (go_at_call 52; refine (IH.out _).mono ?_; rintro e w2 ⟨hb2, rfl⟩; have HB := Aside0.mk hb2; clear hb2)
  go_ret2
  exact ⟨HB.out, rfl⟩
def parseV (n : Nat) (l : List UInt8) : Value := if parseE n l = 0 then encF ((parseO n l).getD (.con false)) else .nilIface
theorem parse_any (hC : HasC) (n : Nat) (l : List UInt8) (w : World) : Calls Tryd.prog 40 #[.string (strL l), .int .i64 (n : Int)] w fun e w' => Below w.heap.size w w' ∧ e = .returned (.tuple #[parseV n l, .int .i64 (parseE n l)]) := by
  by_cases h : 40 < l.length
  · have e : parseE n l = 3 := by unfold parseE; rw [if_pos h]
    have e2 : parseV n l = .nilIface := by unfold parseV; rw [e]; rfl
    rw [e, e2]
    exact parse_long n _ w (by rw [strL_size]; exact_mod_cast h)
  have h' : ¬ (40 : Int) < (strL l).size := by rw [strL_size]; exact_mod_cast h
  have ih := fun w1 => read_any hC n (l.length + 1) l w1 (Nat.lt_succ_self _)
  cases hr : Tr.rdF n (l.length + 1) l with
  | none =>
    rw [hr] at ih
    have eo : parseO n l = none := by unfold parseO; simp [hr]
    have e : parseE n l = 5 := by unfold parseE; rw [if_neg h, eo]; rfl
    have e2 : parseV n l = .nilIface := by unfold parseV; rw [e]; rfl
    rw [e, e2]
    exact parse_none n _ w h' ih
  | some p =>
    obtain ⟨f, r⟩ := p
    rw [hr] at ih
    cases r with
    | nil =>
      have eo : parseO n l = some f := by unfold parseO; simp [hr]
      have e : parseE n l = 0 := by unfold parseE; rw [if_neg h, eo]; rfl
      have e2 : parseV n l = encF f := by unfold parseV; rw [if_pos e, eo]; rfl
      rw [e, e2]
      exact parse_good n _ _ f w h' strL_none ih
    | cons c t =>
      have eo : parseO n l = none := by unfold parseO; simp [hr]
      have e : parseE n l = 5 := by unfold parseE; rw [if_neg h, eo]; rfl
      have e2 : parseV n l = .nilIface := by unfold parseV; rw [e]; rfl
      rw [e, e2]
      exact parse_rest n _ _ f w h' (strL_full c t) ih
end Go.Proofs.YtmobefgnkiboaaaDoor.Im

namespace Go.Proofs.YtmobefgnkiboaaaDoor.Im
open Go.RowKit Go.Proofs.YtmobefgnkiboaaaDoorW.PrintWords Go.Proofs.YtmobefgnkiboaaaDoorW.PrintLast Go.Proofs.YtmobefgnkiboaaaDoorW.PrintMore Go.Proofs.YtmobefgnkiboaaaDoor.Tr
set_option linter.unusedVariables false
theorem has_op (o : UInt8) : decide (0 ≤ Lib.indexByte [38, 124, 61] o) = (opOf o).isSome := by
  unfold opOf
  by_cases h1 : o = 38
  · subst h1; decide
  by_cases h2 : o = 124
  · subst h2; decide
  by_cases h3 : o = 61
  · subst h3; decide
  rw [if_neg h1, if_neg h2, if_neg h3]
  have e1 : ¬ (38 : UInt8) = o := fun h => h1 h.symm
  have e2 : ¬ (124 : UInt8) = o := fun h => h2 h.symm
  have e3 : ¬ (61 : UInt8) = o := fun h => h3 h.symm
  simp [Lib.indexByte, e1, e2, e3]
theorem has_c : HasC := fun o w => (Any.strings_Contains_one Tryd.lays144 ⟨#[38, 124, 61]⟩ o w).mono fun e w' ⟨h1, h2⟩ => ⟨by rw [h2]; exact Below.refl _ _, by rw [h1]; exact congrArg (fun b => Ending.returned (.bool b)) (has_op o)⟩
end Go.Proofs.YtmobefgnkiboaaaDoor.Im

namespace Go.Proofs.YtmobefgnkiboaaaDoor.Im
open Go.RowKit Go.Proofs.YtmobefgnkiboaaaDoorW.PrintWords Go.Proofs.YtmobefgnkiboaaaDoorW.PrintLast Go.Proofs.YtmobefgnkiboaaaDoorW.PrintMore Go.Proofs.YtmobefgnkiboaaaDoor.Tr
attribute [local go_sem] max2_int min2_int max_two min_two max_three min_three max_four min_four
set_option linter.unusedVariables false
set_option linter.unusedSimpArgs false
theorem infoF : (Tryd.prog.info? 81).map (fun i => (i.zero, i.size, i.bytes)) = some (some .nilIface, 1, 16) := by kernel_rfl
def OfPost (l : List (List UInt8)) (w : World) (e : Ending) (w' : World) : Prop :=
  ∃ v, e = .returned (.tuple #[v, .int .i64 (sysE l)]) ∧ Below w.heap.size w w' ∧ (sysE l = 0 → Kd.R kF 81 w' w.heap.size (fun _ => True) v (sysF l)) ∧ (sysE l ≠ 0 → v = .slice none 0 0)
theorem of_long (l : List (List UInt8)) (w : World) (A : Option Addr) (c : Nat) (h : 10 < l.length) : Calls Tryd.prog 22 #[.slice A l.length c] w (OfPost l w) := by
  have HE := Aside0.mk (show sysE l = 3 by unfold sysE; rw [if_pos h])
  have hb : decide (10 < (l.length : Int)) = true := decide_eq_true (by omega)
  have hb' : decide (10 < l.length) = true := decide_eq_true (by omega)
  go_enter Tryd.func22, Tryd.ntmps22
  go_wp2_with fail
  go_ret2
  exact ⟨.slice none 0 0, (by rw [HE.out]; rfl), Below.refl _ _, fun h => (by rw [HE.out] at h; cases h), fun _ => rfl⟩
theorem of_nil (w : World) (A : Option Addr) (c : Nat) : Calls Tryd.prog 22 #[.slice A (([] : List (List UInt8)).length) c] w (OfPost [] w) := by
  have HE := Aside0.mk (show sysE [] = 2 from rfl)
  go_enter Tryd.func22, Tryd.ntmps22
  go_wp2_with fail
  go_ret2
  exact ⟨.slice none 0 0, (by rw [HE.out]; rfl), Below.refl _ _, fun h => (by rw [HE.out] at h; cases h), fun _ => rfl⟩
theorem rd_strL (l : List (List UInt8)) (k : Nat) (h : k < l.length) : rdOf ByteArray.empty (l.map strL) (k : Int) = strL (l.getD k []) := by
  simp [rdOf, h]
theorem firstE_drop {n : Nat} {l : List (List UInt8)} {k : Nat} (h : k < l.length) : firstE n (l.drop k) = if parseE n (l.getD k []) = 0 then firstE n (l.drop (k + 1)) else parseE n (l.getD k []) := by
  rw [List.drop_eq_getElem_cons h, firstE]
  simp [h]
def fmO (n : Nat) (s : List UInt8) : Fm := (parseO n s).getD (.con false)
theorem fmO_snoc {n : Nat} {l : List (List UInt8)} {k : Nat} (h : k < l.length) : (l.take (k + 1)).map (fmO n) = (l.take k).map (fmO n) ++ [fmO n (l.getD k [])] := by
  rw [List.take_succ_eq_append_getElem h, List.map_append]
  simp [h]
def OfGo (n : Nat) (l : List (List UInt8)) (w : World) (e : Ending) (w' : World) : Prop :=
  ∃ v, e = .returned (.tuple #[v, .int .i64 (firstE n l)]) ∧ Below w.heap.size w w' ∧ (firstE n l = 0 → Kd.R kF 81 w' w.heap.size (fun _ => True) v (l.map (fmO n))) ∧ (firstE n l ≠ 0 → v = .slice none 0 0)
set_option maxHeartbeats 1600000 in
set_option maxRecDepth 100000 in
theorem of_go (l : List (List UInt8)) (w : World) (A : Option Addr) (c n : Nat) (hn : l.length = n) (h1 : 0 < n) (h2 : n ≤ 10) (hr : Kd.C Kd.string w A n (l.map strL)) : Calls Tryd.prog 22 #[.slice A n c] w (OfGo n l w) := by
  have hb : decide (10 < (n : Int)) = false := decide_eq_false (by omega)
  have hb' : decide (10 < n) = false := decide_eq_false (by omega)
  have hz : ((n : Int) == 0) = false := beq_eq_false_iff_ne.2 (by omega)
  have n0 : (0 : Int) ≤ (n : Int) := by omega
  have HR := Aside0.mk hr
  have HN := Aside0.mk hn
  have HB0 := Aside0.mk (Below.refl w.heap.size w)
  clear hr hn
  go_enter Tryd.func22, Tryd.ntmps22
  go_wp2_with fail
  go_loopw [4, 19] (fun v v19 wr => ∃ k : Nat, k ≤ n ∧ v19 = .int .i64 (k : Int) ∧ Aside0 (firstE n l = firstE n (l.drop k)) ∧ Aside0 (Kd.R kF 81 wr w.heap.size (fun _ => True) v ((l.take k).map (fmO n))) ∧ Aside0 (Below w.heap.size w wr)) (fun _ v19 _ => n - (intOf v19).toNat)
  case atStart => exact ⟨0, by omega, rfl, ⟨rfl⟩, ⟨Kd.R_nil _ _ _ _ _⟩, HB0⟩
  case round =>
    clear HB0
    obtain ⟨k, hk, rfl, HE, HO, HB⟩ := hrel
    have k0 : (0 : Int) ≤ (k : Int) := by omega
    by_cases hkn : k < n
    · have hkn' : (k : Int) < (n : Int) := by omega
      have hkl : k < l.length := by have := HN.out; omega
      obtain ⟨ad, rfl, hcell⟩ := Kd.at_string (Kd.C_below HR.out HB.out) (k : Int) k0 hkn'
      rw [rd_strL l k hkl, Int.toNat_natCast] at hcell
      have HP := Aside0.mk (fun w1 => parse_any has_c n (l.getD k []) w1)
      have HE2 := Aside0.mk (HE.out.trans (firstE_drop hkl))
      have HS := Aside0.mk (fmO_snoc (n := n) hkl)
      have hlen : ((l.take k).map (fmO n)).length ≤ 10 := by rw [List.length_map, List.length_take]; omega
      have HL := Aside0.mk hlen
      have hfm : parseE n (l.getD k []) = 0 → parseV n (l.getD k []) = encF (fmO n (l.getD k [])) := fun h => by unfold parseV; rw [if_pos h]; rfl
      clear hkl hlen
      generalize l.getD k [] = s at *
      by_cases hp : parseE n s = 0
      · have he2 := HE2.out
        rw [if_pos hp] at he2
        have HP2 := HP.out
        rw [hp, hfm hp] at HP2
        obtain ⟨t, u, he, _, _⟩ := enc_open (fmO n s)
        rw [he] at HP2
        have HE3 := Aside0.mk he2
        have HF := Aside0.mk he
        have HP3 := Aside0.mk HP2
        clear he2 he HP2 HP hp hfm HE2 HE
        go_wp2_with (first | (go_at_call 40; refine (HP3.out _).mono ?_; rintro e w2 ⟨hb2, rfl⟩; have HB2 := Aside0.mk (below_then HB.out HB.out.size hb2); have HO2 := Aside0.mk (Kd.R_below HO.out hb2); clear hb2) | ((with_reducible refine gate_builtin (b := .append) (xs := #[.tmp 33, .tmp 35]) rfl ?_); at_builtin; refine Kd.R_append kF (w0 := w) w.heap.size rfl (.tmp 33) (.tmp 35) 53 81 .nilIface 16 rfl Tryd.underlying53 infoF rfl (by decide) (by omega) _ ((l.take k).map (fmO n)) (fmO n s) [.iface t u] (fun _ => True) (fun _ => False) rfl rfl ?aP (fun _ hk => hk.elim) ?aF ?aO ?aB ?aS ?aL ?_; (case aP => exact congrArg (fun x => [x]) HF.out.symm); (case aF => exact (fun _ _ => trivial)); (case aO => exact HO2.out); (case aB => exact HB2.out); (case aS => exact HB2.out.size); (case aL => have := HL.out; omega); intro v1 w3 ho hb _ _; rw [← HS.out] at ho; have HO3 := Aside0.mk ho; have HB3 := Aside0.mk hb; clear ho hb))
        go_roundw
        case rel => exact ⟨k + 1, by omega, by go_num, HE3, HO3, HB3⟩
        case measure => simp [intOf]; omega
      · have he2 := HE2.out
        rw [if_neg hp] at he2
        have hpb : (parseE n s != 0) = true := bne_iff_ne.2 hp
        have HE3 := Aside0.mk he2
        have HPN := Aside0.mk hp
        clear he2 hfm HE2 HE hp
        generalize parseE n s = x at *
        generalize parseV n s = y at *
        go_wp2_with (first | (go_at_call 40; refine (HP.out _).mono ?_; rintro e w2 ⟨hb2, rfl⟩; have HB2 := Aside0.mk (below_then HB.out HB.out.size hb2); clear hb2))
        go_ret2
        exact ⟨.slice none 0 0, (by rw [HE3.out]; rfl), HB2.out, fun h => absurd (HE3.out.symm.trans h) HPN.out, fun _ => rfl⟩
    · obtain rfl : n = k := by omega
      have HF := Aside0.mk (show firstE n l = 0 by rw [HE.out, List.drop_eq_nil_of_le (by have := HN.out; omega)]; rfl)
      have htk := HO.out
      rw [List.take_of_length_le (by have := HN.out; omega)] at htk
      have HO2 := Aside0.mk htk
      clear htk HE HO
      go_wp2_with fail
      go_ret2
      exact ⟨_, (by rw [HF.out]; rfl), HB.out, fun _ => HO2.out, fun h => absurd HF.out h⟩
theorem of_any (l : List (List UInt8)) (w : World) (A : Option Addr) (c : Nat) (hr : Kd.C Kd.string w A l.length (l.map strL)) : Calls Tryd.prog 22 #[.slice A l.length c] w (OfPost l w) := by
  by_cases h : 10 < l.length
  · exact of_long l w A c h
  · cases l with
    | nil => exact of_nil w A c
    | cons s t =>
      have e : sysE (s :: t) = firstE (s :: t).length (s :: t) := by unfold sysE; rw [if_neg h, if_neg (by simp)]
      refine (of_go (s :: t) w A c (s :: t).length rfl (by simp) (by omega) hr).mono fun e' w' ⟨v, h1, h2, h3, h4⟩ => ⟨v, ?_, h2, ?_, ?_⟩
      · rw [e]; exact h1
      · rw [e]; exact h3
      · rw [e]; exact h4
end Go.Proofs.YtmobefgnkiboaaaDoor.Im

namespace Go.Proofs.YtmobefgnkiboaaaDoor.Im
open Go.RowKit Go.Proofs.YtmobefgnkiboaaaDoorW.PrintWords Go.Proofs.YtmobefgnkiboaaaDoorW.PrintLast Go.Proofs.YtmobefgnkiboaaaDoorW.PrintMore Go.Proofs.YtmobefgnkiboaaaDoor.Tr
set_option linter.unusedVariables false
theorem dw_nil {p : UInt8 → Bool} : ∀ {l : List UInt8}, l.dropWhile p = [] ↔ l.all p = true
  | [] => by simp
  | a :: l => by
    by_cases h : p a = true
    · rw [List.dropWhile_cons_of_pos h, dw_nil, List.all_cons, h]; simp
    · rw [List.dropWhile_cons_of_neg h, List.all_cons]
      have : p a = false := by simpa using h
      rw [this]; simp
theorem dw_all {p : UInt8 → Bool} : ∀ {l : List UInt8}, (l.dropWhile p).all p = l.all p
  | [] => rfl
  | a :: l => by
    by_cases h : p a = true
    · rw [List.dropWhile_cons_of_pos h, dw_all, List.all_cons, h]; rfl
    · rw [List.dropWhile_cons_of_neg h]
theorem trim_nil (l cs : List UInt8) : Lib.trimS l cs = [] ↔ l.all (cs.contains ·) = true := by
  unfold Lib.trimS Lib.trimLeftS Lib.trimRightS
  rw [dw_nil, List.all_reverse, dw_all, List.all_reverse]
def valB (cs : List UInt8) (n : Nat) (s : ByteArray) : Bool := decide (s.size = n) && s.data.toList.all (cs.contains ·)
theorem trim_any (s : ByteArray) (w : World) (cs : ByteArray) (hs : s.size ≤ 9223372036854775807) (hcs : cs.size < 4294967281) (ha : cs.data.toList.all (fun b => decide (b.toNat < 128)) = true) :
    Calls Tryd.prog 45 #[.string s, .string cs] w fun e w' => e = .returned (.string ⟨(Lib.trimS s.data.toList cs.data.toList).toArray⟩) ∧ Below w.heap.size w w' :=
  Any.strings_Trim_laid Tryd.lays160 (by kernel_rfl) s cs w hs hcs (ascii_of_all ha)
def ValuedPost (r : Bool) (w : World) (e : Ending) (w' : World) : Prop := e = .returned (.bool r) ∧ Below w.heap.size w w'
set_option maxRecDepth 100000 in
theorem valued_any (cs s : ByteArray) (n c : Nat) (A : Option Addr) (w : World) (hs : s.size ≤ 9223372036854775807) (hcs : cs.size < 4294967281) (ha : cs.data.toList.all (fun b => decide (b.toNat < 128)) = true) (hn : n ≤ 10) :
    Calls Tryd.prog 28 #[.slice A n c, .string s, .string cs] w (ValuedPost (valB cs.data.toList n s) w) := by
  have HT := Aside0.mk (fun w1 => trim_any s w1 cs hs hcs ha)
  clear ha hcs
  by_cases hl : s.size = n
  · have hl1 : ((s.size : Int) == (n : Int)) = true := beq_iff_eq.2 (by omega)
    have hl2 : (s.size == n) = true := beq_iff_eq.2 (by omega)
    have hv : valB cs.data.toList n s = (⟨(Lib.trimS s.data.toList cs.data.toList).toArray⟩ : ByteArray).toList.isEmpty := by
      unfold valB
      rw [ByteArray.toList_mk, decide_eq_true hl, Bool.true_and, Bool.eq_iff_iff, List.isEmpty_iff, trim_nil]
    rw [hv]
    have HL := Aside0.mk hl
    clear hl hv
    generalize (⟨(Lib.trimS s.data.toList cs.data.toList).toArray⟩ : ByteArray) = r at *
    go_enter Tryd.func28, Tryd.ntmps28
    go_wp2_with (first | (go_at_call 45; refine (HT.out _).mono ?_; rintro e w2 ⟨rfl, hb2⟩; have HB := Aside0.mk hb2; clear hb2))
    go_ret
    exact ⟨rfl, HB.out⟩
  · have hl1 : ((s.size : Int) == (n : Int)) = false := beq_eq_false_iff_ne.2 (by omega)
    have hl2 : (s.size == n) = false := beq_eq_false_iff_ne.2 (by omega)
    have HV := Aside0.mk (show valB cs.data.toList n s = false by unfold valB; rw [decide_eq_false hl]; rfl)
    clear HT hl
    go_enter Tryd.func28, Tryd.ntmps28
    go_wp2_with fail
    go_ret
    exact ⟨by rw [HV.out]; rfl, Below.refl _ _⟩
def byteT (c : UInt8) : T3 := if c = 48 then some false else if c = 49 then some true else none
theorem byteT_byte3 : ∀ c : T3, byteT (byte3 c) = c
  | none => rfl
  | some false => rfl
  | some true => rfl
theorem byte3_byteT {c : UInt8} (h : c = 48 ∨ c = 49 ∨ c = 63) : byte3 (byteT c) = c := by
  rcases h with h | h | h <;> subst h <;> rfl
def vsOf (s : ByteArray) : List T3 := s.data.toList.map byteT
theorem vsOf_strV (v : List T3) : vsOf (strV v) = v := by
  simp only [vsOf, strV, List.map_map]
  exact (List.map_congr_left fun c _ => byteT_byte3 c).trans (List.map_id _)
theorem strV_vsOf {s : ByteArray} (h : ∀ c ∈ s.data.toList, c = 48 ∨ c = 49 ∨ c = 63) : strV (vsOf s) = s := by
  have e : (vsOf s).map byte3 = s.data.toList := by
    rw [vsOf, List.map_map]
    exact (List.map_congr_left fun c hc => byte3_byteT (h c hc)).trans (List.map_id _)
  unfold strV
  rw [e]
theorem strV_inj {v u : List T3} (h : strV v = strV u) : v = u := by rw [← vsOf_strV v, h, vsOf_strV]
theorem valB3 {n : Nat} {s : ByteArray} (h : valB [48, 49, 63] n s = true) : ∃ v : List T3, v.length = n ∧ s = strV v := by
  unfold valB at h
  rw [Bool.and_eq_true, decide_eq_true_eq, List.all_eq_true] at h
  refine ⟨vsOf s, ?_, (strV_vsOf fun c hc => ?_).symm⟩
  · rw [vsOf, List.length_map, Array.length_toList]; exact h.1
  · have := h.2 c hc; simpa using this
theorem valB3_strV (v : List T3) : valB [48, 49, 63] v.length (strV v) = true := by
  unfold valB
  rw [strV_size, decide_eq_true rfl, Bool.true_and, List.all_eq_true]
  intro c hc
  simp only [strV, List.mem_map] at hc
  obtain ⟨x, _, rfl⟩ := hc
  rcases x with _ | (_ | _) <;> rfl
end Go.Proofs.YtmobefgnkiboaaaDoor.Im

namespace Go.Proofs.YtmobefgnkiboaaaDoor.Im
open Go.RowKit Go.Proofs.YtmobefgnkiboaaaDoorW.PrintWords Go.Proofs.YtmobefgnkiboaaaDoorW.PrintLast Go.Proofs.YtmobefgnkiboaaaDoorW.PrintMore Go.Proofs.YtmobefgnkiboaaaDoor.Tr
set_option linter.unusedVariables false
set_option linter.unusedSimpArgs false
def OutS (r : ByteArray × Int) (w : World) (e : Ending) (w' : World) : Prop := e = .returned (.tuple #[.string r.1, .int .i64 r.2]) ∧ Below w.heap.size w w'
def str0 : ByteArray := ⟨#[]⟩
def valueO (l : List (List UInt8)) (s : ByteArray) : ByteArray × Int :=
  if sysE l = 0 then (if valB [48, 49, 63] l.length s then (strV (nextV (sysF l) (vsOf s)), 0) else (str0, 2)) else (str0, sysE l)
theorem of_cases {l : List (List UInt8)} {w w' : World} {e : Ending} (h : OfPost l w e w') :
    Below w.heap.size w w' ∧ ((sysE l ≠ 0 ∧ e = .returned (.tuple #[.slice none 0 0, .int .i64 (sysE l)])) ∨
      (sysE l = 0 ∧ ∃ A c, l.length ≤ c ∧ e = .returned (.tuple #[.slice A l.length c, .int .i64 0]) ∧ Kd.C kF w' A l.length (sysF l))) := by
  obtain ⟨v, rfl, hb, h1, h2⟩ := h
  refine ⟨hb, ?_⟩
  by_cases h0 : sysE l = 0
  · obtain ⟨A, c, rfl, hc, hC⟩ := Kd.R_reads (h1 h0)
    rw [sysF_len] at hc hC
    exact .inr ⟨h0, A, c, hc, by rw [h0, sysF_len], hC⟩
  · exact .inl ⟨h0, by rw [h2 h0]⟩
theorem of_bad {l : List (List UInt8)} (h : sysE l ≠ 0) (w : World) (A : Option Addr) (c : Nat) (hr : Kd.C Kd.string w A l.length (l.map strL)) :
    Calls Tryd.prog 22 #[.slice A l.length c] w fun e w' => e = .returned (.tuple #[.slice none 0 0, .int .i64 (sysE l)]) ∧ Below w.heap.size w w' :=
  (of_any l w A c hr).mono fun e w' hp => by
    obtain ⟨hb, ⟨_, he⟩ | ⟨h0, _⟩⟩ := of_cases hp
    · exact ⟨he, hb⟩
    · exact absurd h0 h
def OfGood (n : Nat) (fs : List Fm) (w : World) (e : Ending) (w' : World) : Prop :=
  ∃ A c, n ≤ c ∧ e = .returned (.tuple #[.slice A n c, .int .i64 0]) ∧ Kd.C kF w' A n fs ∧ Below w.heap.size w w'
theorem of_good {l : List (List UInt8)} (h : sysE l = 0) (w : World) (A : Option Addr) (c : Nat) (hr : Kd.C Kd.string w A l.length (l.map strL)) :
    Calls Tryd.prog 22 #[.slice A l.length c] w (OfGood l.length (sysF l) w) :=
  (of_any l w A c hr).mono fun e w' hp => by
    obtain ⟨hb, ⟨h0, _⟩ | ⟨h0, A, c, hc, he, hC⟩⟩ := of_cases hp
    · exact absurd h h0
    · exact ⟨A, c, hc, he, hC, hb⟩
set_option maxHeartbeats 800000 in
set_option maxRecDepth 100000 in
theorem value_call (l : List (List UInt8)) (s : ByteArray) (w : World) (A : Option Addr) (c : Nat) (hr : Kd.C Kd.string w A l.length (l.map strL)) (hs : s.size ≤ 9223372036854775807) :
    Calls Tryd.prog 11 #[.slice A l.length c, .string s] w (OutS (valueO l s) w) := by
  by_cases h0 : sysE l = 0
  · have S := sys_ok h0
    have HO := Aside0.mk (of_good h0 w A c hr)
    have HV := Aside0.mk (fun (A : Option Addr) (c : Nat) (w1 : World) => valued_any ⟨#[48, 49, 63]⟩ s l.length c A w1 hs (by decide) (by decide) S.n10)
    obtain ⟨n, hn⟩ : ∃ n, l.length = n := ⟨_, rfl⟩
    rw [hn] at HO HV S ⊢
    by_cases hv : valB [48, 49, 63] n s = true
    · have HR := Aside0.mk (show valueO l s = (strV (nextV (sysF l) (vsOf s)), 0) by unfold valueO; rw [if_pos h0, hn, if_pos hv])
      obtain ⟨v, hvl, rfl⟩ := valB3 hv
      rw [vsOf_strV] at HR
      have HN := Aside0.mk (fun (w1 : World) (A : Option Addr) (c : Nat) => next_any S hvl w1 A c)
      have HV2 := Aside0.mk (fun (A : Option Addr) (c : Nat) (w1 : World) => (show Calls Tryd.prog _ _ w1 (ValuedPost true w1) from hv ▸ HV.out A c w1))
      clear HV hv hr hs S h0 hvl hn
      generalize strV v = s at *
      go_enter Tryd.func11, Tryd.ntmps11
      go_wp2_with (first | (go_at_call 22; refine HO.out.mono ?_; rintro e w1 ⟨A1, c1, hc1, rfl, hC, hb⟩; have HC := Aside0.mk hC; have HB := Aside0.mk hb; have HCC := Aside0.mk hc1; clear hC hb hc1) | (go_at_call 28; refine (HV2.out _ _ _).mono ?_; rintro e w2 ⟨rfl, hb2⟩; have HC2 := Aside0.mk (Kd.C_below HC.out hb2); have HB2 := Aside0.mk (below_then HB.out HB.out.size hb2); clear hb2) | (go_at_call 25; refine (HN.out _ _ _ HC2.out HCC.out).mono ?_; rintro e w3 ⟨rfl, hb3⟩; have HB3 := Aside0.mk (below_then HB2.out HB2.out.size hb3); clear hb3))
      go_ret2
      exact ⟨by rw [HR.out]; rfl, HB3.out⟩
    · have hv' : valB [48, 49, 63] n s = false := by simpa using hv
      have HR := Aside0.mk (show valueO l s = (str0, 2) by unfold valueO; rw [if_pos h0, hn, if_neg hv])
      have HV2 := Aside0.mk (fun (A : Option Addr) (c : Nat) (w1 : World) => (show Calls Tryd.prog _ _ w1 (ValuedPost false w1) from hv' ▸ HV.out A c w1))
      clear HV hv hv' hr hs S h0 hn
      go_enter Tryd.func11, Tryd.ntmps11
      go_wp2_with (first | (go_at_call 22; refine HO.out.mono ?_; rintro e w1 ⟨A1, c1, hc1, rfl, hC, hb⟩; have HB := Aside0.mk hb; clear hC hb hc1) | (go_at_call 28; refine (HV2.out _ _ _).mono ?_; rintro e w2 ⟨rfl, hb2⟩; have HB2 := Aside0.mk (below_then HB.out HB.out.size hb2); clear hb2))
      go_ret2
      exact ⟨by rw [HR.out]; rfl, HB2.out⟩
  · have HR := Aside0.mk (show valueO l s = (str0, sysE l) by unfold valueO; rw [if_neg h0])
    have HO := Aside0.mk (of_bad h0 w A c hr)
    have hne : (sysE l != 0) = true := bne_iff_ne.2 h0
    clear h0 hr hs
    generalize sysE l = x at *
    go_enter Tryd.func11, Tryd.ntmps11
    go_wp2_with (first | (go_at_call 22; refine HO.out.mono ?_; rintro e w1 ⟨rfl, hb⟩; have HB := Aside0.mk hb; clear hb))
    go_ret2
    exact ⟨by rw [HR.out]; rfl, HB.out⟩
end Go.Proofs.YtmobefgnkiboaaaDoor.Im

