/- Further parts of the same walk: contracts of the functions that the law reaches, each under the conditions that it states. -/
import Derived.Test.YtlmgkmmdaecpdaaDoorC12G
import Derived.Laws.CopyOwn
import Derived.Deep.RegionLaw
namespace Go.Proofs.YtlmgkmmdaecpdaaDoor.Im
open Go.RowKit Go.Proofs.YtlmgkmmdaecpdaaDoorW.PrintWords Go.Proofs.YtlmgkmmdaecpdaaDoorW.PrintLast Go.Proofs.YtlmgkmmdaecpdaaDoorW.PrintMore Go.Proofs.YtlmgkmmdaecpdaaDoor.Mi
set_option linter.unusedVariables false
def endK (n i : Nat) (p : Int) : Nat := if p = 111 then i % n else i / n
set_option maxRecDepth 100000 in
theorem ends_any (g n i : Nat) (u : Value) (p : Int) (w : World) (h1 : 1 ≤ n) (h11 : n ≤ 11) (hi : i < n * n) (hb : Blk w g 89 #[.int .i64 n, u]) :
    Calls Tryd.prog 48 #[.pointer (some ⟨g, 0, none⟩), .int .i64 i, .int .u8 p] w fun e w' => e = .returned (.tuple #[.bool (decide (endK n i p = 0)), .bool (decide (endK n i p = n - 1))]) ∧ Below w.heap.size w w' := by
  have c0 : w.cell? ⟨g, 0, none⟩ = some (.int .i64 n) := hb.cell 0
  clear hb
  have hn0 : ((n : Int) == 0) = false := beq_eq_false_iff_ne.2 (by omega)
  have e0 : wrap64 ((n : Int) - 1) = ((n - 1 : Nat) : Int) := by unfold wrap64; omega
  have e0' : ((n : Int) - 1) = ((n - 1 : Nat) : Int) := by omega
  have q11 : i / n < n := Nat.div_lt_of_lt_mul hi
  have m11 : i % n < n := Nat.mod_lt _ (by omega)
  have e1 : wrap64 ((i : Int) / (n : Int)) = ((i / n : Nat) : Int) := by
    rw [← Int.natCast_ediv]
    generalize i / n = q at *
    unfold wrap64; omega
  have e3 : (i : Int) % (n : Int) = ((i % n : Nat) : Int) := rfl
  unfold endK
  generalize i / n = q at *
  generalize i % n = m at *
  have key : ∀ k : Nat, ((k : Int) == 0) = decide (k = 0) ∧ ((k : Int) == ((n - 1 : Nat) : Int)) = decide (k = n - 1) := fun k => by
    constructor
    · rw [Bool.eq_iff_iff, beq_iff_eq, decide_eq_true_eq]; omega
    · rw [Bool.eq_iff_iff, beq_iff_eq, decide_eq_true_eq]; omega
  by_cases hp : p = 111
  · rw [if_pos hp, ← (key m).1, ← (key m).2]
    have hp' : (p == 111) = true := beq_iff_eq.2 hp
    clear key hp
    go_enter Tryd.func48, Tryd.ntmps48
    go_wp2_with fail
    go_quiet (fail)
    go_wp2_with fail
    go_ret2
    exact ⟨rfl, pw_below_drewN (Below.refl _ _) nq⟩
  · rw [if_neg hp, ← (key q).1, ← (key q).2]
    have hp' : (p == 111) = false := beq_eq_false_iff_ne.2 hp
    clear key hp
    go_enter Tryd.func48, Tryd.ntmps48
    go_wp2_with fail
    go_quiet (fail)
    go_wp2_with fail
    go_ret2
    exact ⟨rfl, pw_below_drewN (Below.refl _ _) nq⟩
theorem mul_one (c : Nat) (hc : c ≤ 1000) (w : World) : Calls Tryd.prog 96 #[.int .u64 1, .int .u64 c] w fun e w' => e = .returned (.tuple #[.int .u64 0, .int .u64 c]) ∧ w' = w := by
  have h := Tryd.bits_Mul 1 c (by decide) (by omega) w
  rw [Nat.one_mul, Nat.div_eq_of_lt (by omega), Nat.mod_eq_of_lt (by omega)] at h
  exact h
set_option maxHeartbeats 1600000 in
set_option maxRecDepth 100000 in
theorem repeat_any (c : Nat) (h1 : 1 ≤ c) (h2 : c ≤ 1000) (gx : Nat) (w : World) (hx : Blk w gx 3 #[.int .i64 (-1)]) :
    Calls Tryd.prog 81 #[.slice (some ⟨gx, 0, none⟩) 1 1, .int .i64 c] w fun e w' => ∃ v, e = .returned v ∧ Kd.R (Kd.int .i64) 3 w' w.heap.size (fun _ => True) v (List.replicate c (-1)) ∧ Below w.heap.size w w' := by
  have HX := Aside0.mk hx
  have n0 : ¬ (c : Int) < 0 := by omega
  have HM := Aside0.mk (fun w => mul_one c h2 w)
  have e1 : (c : Int) % 18446744073709551616 = c := by omega
  have b1 : ¬ (9223372036854775807 : Int) < (c : Int) := by omega
  clear hx
  go_enter Tryd.func81, Tryd.ntmps81
  go_wp2_with fail
  refine (HM.out _).mono ?_
  rintro e w1 ⟨rfl, h⟩
  obtain rfl : w = w1 := h.symm
  have ew : wrap64 (c : Int) = c := by unfold wrap64; omega
  have h3 : (Tryd.prog.info? 3).map (·.size) = some 1 := by kernel_rfl
  go_wp2_with (first
    | ((with_reducible refine gate_dst (N := 30) rfl ?_); refine Kd.R_make (Kd.int .i64) _ 3 rfl (N := 30) rfl 34 _ _ rfl (c : Int) rfl rfl Tryd.underlying34 (.int .i64 0) 8 info3 rfl (by decide) (by omega) 0 (ok := fun _ => True) (okp := fun _ => True) rfl (fun _ hk => hk) trivial (by omega) (by omega) (Below.refl _ _) (Nat.le_refl _) ?_; intro v30 w5 ho6 hb hg_ hnew_; clear hg_ hnew_; rw [Int.toNat_natCast] at ho6
       obtain ⟨gn, cap, cur, rfl, hgn, hcur, hcc, hcm, hcs⟩ : ∃ gn cap cur, v30 = .slice (some ⟨gn, 0, none⟩) c cap ∧ w.heap.size ≤ gn ∧ w5.heap[gn]? = some (.cells cur 3 (0, 0)) ∧ c ≤ cap ∧ cap ≤ maxLen ∧ cur.size = cap := by
         rcases (Kd.own_of_R ho6).2 with ⟨_, h0⟩ | ⟨gn, cap, cur, e, h1, h2, h3, h4, h5, _⟩
         · rw [List.length_replicate] at h0; omega
         · rw [List.length_replicate] at e h3; exact ⟨gn, cap, cur, e, h1, h2, h3, h4, by rw [h5, Nat.mul_one]⟩
       have HB := Aside0.mk hb
       have hxc : w5.cell? ⟨gx, 0, none⟩ = some (.int .i64 (-1)) := (Blk.later HX.out hb).cell 0
       have HXC := Aside0.mk hxc
       have HCUR := Aside0.mk (show w5.heap[gn]? = some (.cells cur.toList.toArray 3 (0, 0)) from hcur)
       have HGN := Aside0.mk hgn
       have HCS := Aside0.mk (show cur.toList.length = cap by simpa using hcs)
       have HCM := Aside0.mk hcm
       clear hb ho6 hxc hcur hgn hcs hcm
       generalize cur.toList = CL at *)
    | ((with_reducible refine gate_builtin (b := .copy) (xs := #[.tmp 31, .tmp 32]) rfl ?_); refine wpList_copy_splice rfl (.tmp 31) (.tmp 32) 34 34 rfl 3 Tryd.underlying34 h3 (some ⟨gn, 0, none⟩) (some ⟨gx, 0, none⟩) c cap 1 1 rfl rfl gn 0 CL 3 HCUR.out [.int .i64 (-1)] (by show 1 = min 1 c; omega) (fun _ => ⟨rfl, ⟨gx, 0, none⟩, rfl, fun j v hj => by match j, hj with | 0, hj => (simp at hj; subst hj; exact HXC.out)⟩) (by rw [HCS.out]; simp; omega) (by intro v hv; simp at hv; subst hv; rfl) w.heap.size w HB.out HGN.out ?_; intro w6 hg6 hb6; have HG6 := Aside0.mk hg6.out; have HB6 := Aside0.mk hb6; clear hg6 hb6))
  have hcm := HCM.out
  have hcl := HCS.out
  have HI : Aside0 ((splice CL 0 [Value.int .i64 (-1)]).length = cap ∧ (splice CL 0 [Value.int .i64 (-1)]).take 1 = List.replicate 1 (.int .i64 (-1))) := ⟨by
    rw [length_splice CL 0 _ (by simp; omega)]; exact hcl, by simp [splice]⟩
  have HGN2 := HGN
  unfold maxLen at hcm
  clear hcl HCUR HCS HCM HXC HX
  generalize splice CL 0 [Value.int .i64 (-1)] = D0 at *
  go_loopw [8] (fun v8 wr => ∃ m : Nat, 1 ≤ m ∧ m ≤ c ∧ v8 = .int .i64 (m : Int) ∧ Aside0 (∃ D : List Value, wr.heap[gn]? = some (.cells D.toArray 3 (0, 0)) ∧ D.length = cap ∧ D.take m = List.replicate m (.int .i64 (-1))) ∧ Aside0 (Below w.heap.size w wr)) (fun v _ => c - (intOf v).toNat)
  case atStart => exact ⟨1, by omega, h1, rfl, ⟨D0, HG6.out, HI.out.1, HI.out.2⟩, HB6⟩
  case round =>
    obtain ⟨m, hm1, hmc, rfl, HD, HBr⟩ := hrel
    obtain ⟨D, hD, hDl, hDt⟩ := HD.out
    have HD1 := Aside0.mk hD
    have HD2 := Aside0.mk hDl
    have HD3 := Aside0.mk hDt
    clear hD hDl hDt HD
    by_cases hlt : m < c
    · have hlt' : (m : Int) < (c : Int) := by omega
      have hp0 : (0 : Int) ≤ (m : Int) := by omega
      have hp1 : (m : Int) ≤ (c : Int) := by omega
      have hp2 : (m : Int) ≤ (cap : Int) := by omega
      have hp3 : (c : Int) ≤ (cap : Int) := by omega
      have hq : min m (c - m) ≤ m := Nat.min_le_left _ _
      have hsl : (splice D m (List.replicate (min m (c - m)) (Value.int .i64 (-1)))).length = cap := by
        rw [length_splice D m _ (by simp; rw [HD2.out]; omega)]; exact HD2.out
      have hst : (splice D m (List.replicate (min m (c - m)) (Value.int .i64 (-1)))).take (m + min m (c - m)) = List.replicate (m + min m (c - m)) (.int .i64 (-1)) := by
        unfold splice
        rw [HD3.out, ← List.append_assoc, List.take_append_of_le_length (by simp), List.take_of_length_le (by simp), List.replicate_append_replicate]
      have HSL := Aside0.mk hsl
      have HST := Aside0.mk hst
      have hmin : min m (c - m) ≤ c - m := Nat.min_le_right _ _
      have hmin1 : 1 ≤ min m (c - m) := by omega
      have HFIT := Aside0.mk (show m + (List.replicate (min m (c - m)) (Value.int .i64 (-1))).length ≤ D.length by rw [HD2.out]; simp; omega)
      go_wp2_with fail
      have HPOS := Aside0.mk (show 0 < (List.replicate (min m (c - m)) (Value.int .i64 (-1))).length → (some (⟨gn, m, none⟩ : Addr)) = some ⟨gn, m, none⟩ ∧ ∃ ad, (some (⟨gn, 0, none⟩ : Addr)) = some ad ∧ ∀ j v, (List.replicate (min m (c - m)) (Value.int .i64 (-1)))[j]? = some v → wr.drew.cell? (ad.add j) = some v by
        intro _
        refine ⟨rfl, ⟨gn, 0, none⟩, rfl, fun j v hj => ?_⟩
        rw [List.getElem?_replicate] at hj
        split at hj
        · obtain rfl := Option.some.inj hj
          have hj2 : (D.take m)[j]? = some (.int .i64 (-1)) := by rw [HD3.out, List.getElem?_replicate]; rw [if_pos (by omega)]
          rw [List.getElem?_take_of_lt (by omega)] at hj2
          have e : (⟨gn, 0, none⟩ : Addr).add j = ⟨gn, j, none⟩ := by unfold Addr.add; by_cases h : j = 0 <;> simp [h]
          have : Blk wr gn 3 D.toArray := HD1.out
          rw [e, this.drew.cell j]
          simpa using hj2
        · cases hj)
      have HBd := Aside0.mk (below_drew HBr.out)
      have hgd : Aside0 (wr.drew.heap[gn]? = some (.cells D.toArray 3 (0, 0))) := ⟨HD1.out⟩
      clear hsl hst
      go_region_law (refine step_copy_splice rfl (.tmp 41) (.tmp 44) 34 34 rfl 3 Tryd.underlying34 h3 (some ⟨gn, m, none⟩) (some ⟨gn, 0, none⟩) (c - m) (cap - m) m cap (by simp [Act.eval, Act.put]; omega) (by simp [Act.eval, Act.put]) gn m D 3 hgd.out (List.replicate (min m (c - m)) (.int .i64 (-1))) (by simp) HPOS.out HFIT.out (by intro v hv; rw [List.mem_replicate] at hv; rw [hv.2]; rfl) w.heap.size w HBd.out HGN.out ?_; intro w6 hg6 hb6; have HG6 := Aside0.mk hg6.out; have HB6 := Aside0.mk hb6; clear hg6 hb6)
      clear HFIT HPOS hgd HBd
      generalize min m (c - m) = q at *
      have hwq : wrap64 ((m : Int) + (q : Int)) = ((m + q : Nat) : Int) := by unfold wrap64; omega
      go_wp2_with fail
      go_roundw
      case rel => exact ⟨m + q, by omega, by omega, by rw [i64_w]; exact hwq, ⟨_, HG6.out, HSL.out, HST.out⟩⟩
      case measure => simp only [intOf]; rw [i64_w, hwq]; omega
    · obtain rfl : m = c := by omega
      have hfin : Kd.R (Kd.int .i64) 3 wr w.heap.size (fun _ => True) (.slice (some ⟨gn, 0, none⟩) m cap) (List.replicate m (-1)) := by
        refine Kd.R_of_own ⟨by simp [encs], .inr ⟨gn, cap, D.toArray, by rw [List.length_replicate], HGN.out, HD1.out, by simp; omega, by unfold maxLen; omega, by simp [HD2.out], ?_⟩⟩ (fun _ _ => trivial)
        rw [List.length_replicate, Nat.mul_one]
        show D.take m = _
        rw [HD3.out]; simp [encs]
      have HFIN := Aside0.mk hfin
      clear hfin
      go_wp2_with fail
      go_ret
      exact ⟨_, rfl, HFIN.out, HBr.out⟩
end Go.Proofs.YtlmgkmmdaecpdaaDoor.Im

namespace Go.Proofs.YtlmgkmmdaecpdaaDoor.Mi
set_option linter.unusedVariables false
theorem head_map (σ : Nat → Nat) : ∀ {P : List Nat}, P ≠ [] → headN (P.map σ) = σ (headN P)
  | [], h => absurd rfl h
  | _ :: _, _ => rfl
theorem lastN_map (σ : Nat → Nat) : ∀ {P : List Nat}, P ≠ [] → lastN (P.map σ) = σ (lastN P)
  | [], h => absurd rfl h
  | [_], _ => rfl
  | _ :: q :: t, _ => lastN_map σ (P := q :: t) (by simp)
theorem lastN_mem : ∀ {P : List Nat}, P ≠ [] → lastN P ∈ P
  | [], h => absurd rfl h
  | [p], _ => by simp [lastN]
  | p :: q :: t, _ => List.mem_cons_of_mem _ (lastN_mem (P := q :: t) (by simp))
theorem headN_mem : ∀ {P : List Nat}, P ≠ [] → headN P ∈ P
  | [], h => absurd rfl h
  | p :: t, _ => List.mem_cons_self
section
variable {m m' : Nat} {nb nb' : Nat → Nat → Prop} {ok en ok' en' be be' : Nat → Prop} {c c' : Nat → Nat} {σ : Nat → Nat}
structure Into (m m' : Nat) (nb nb' : Nat → Nat → Prop) (ok en be ok' en' be' : Nat → Prop) (c c' σ : Nat → Nat) : Prop where
  lt : ∀ a, a < m → σ a < m'
  nb_ : ∀ a b, a < m → b < m → nb a b → nb' (σ a) (σ b)
  ok_ : ∀ a, a < m → ok a → ok' (σ a)
  en_ : ∀ a, a < m → en a → en' (σ a)
  be_ : ∀ a, a < m → be a → be' (σ a)
  cost : ∀ a, a < m → ok a → c' (σ a) ≤ c a
theorem Into.chain (h : Into m m' nb nb' ok en be ok' en' be' c c' σ) : ∀ {P : List Nat}, (∀ p ∈ P, p < m) → Chain nb P → Chain nb' (P.map σ)
  | [], _, _ => trivial
  | [_], _, _ => trivial
  | p :: q :: t, hm, hc => ⟨h.nb_ p q (hm p (by simp)) (hm q (by simp)) hc.1, Into.chain h (P := q :: t) (fun r hr => hm r (List.mem_cons_of_mem _ hr)) hc.2⟩
theorem Into.costs (h : Into m m' nb nb' ok en be ok' en' be' c c' σ) : ∀ {P : List Nat}, (∀ p ∈ P, p < m ∧ ok p) → costN c' (P.map σ) ≤ costN c P
  | [], _ => Nat.le_refl _
  | p :: t, hm => by
    have h1 := h.cost p (hm p (by simp)).1 (hm p (by simp)).2
    have h2 := Into.costs h (P := t) (fun r hr => hm r (List.mem_cons_of_mem _ hr))
    show c' (σ p) + costN c' (t.map σ) ≤ c p + costN c t
    omega
theorem Into.way (h : Into m m' nb nb' ok en be ok' en' be' c c' σ) {P : List Nat} (hw : Wy m nb ok en P) : Wy m' nb' ok' en' (P.map σ) ∧ headN (P.map σ) = σ (headN P) ∧ costN c' (P.map σ) ≤ costN c P := by
  refine ⟨⟨by simpa using hw.ne, h.chain (fun p hp => (hw.mem p hp).1) hw.chain, fun q hq => ?_, ?_⟩, head_map σ hw.ne, h.costs hw.mem⟩
  · obtain ⟨p, hp, rfl⟩ := List.mem_map.1 hq
    exact ⟨h.lt p (hw.mem p hp).1, h.ok_ p (hw.mem p hp).1 (hw.mem p hp).2⟩
  · rw [lastN_map σ hw.ne]
    exact h.en_ _ (hw.mem _ (lastN_mem hw.ne)).1 hw.fin
structure Need (m : Nat) (nb : Nat → Nat → Prop) (ok be en : Nat → Prop) (c : Nat → Nat) (d : Nat) : Prop where
  real : ∃ P, Wy m nb ok en P ∧ be (headN P) ∧ costN c P = d
  le : ∀ P, Wy m nb ok en P → be (headN P) → d ≤ costN c P
theorem Need.unique {d e : Nat} (h : Need m nb ok be en c d) (k : Need m nb ok be en c e) : d = e := by
  obtain ⟨P, h1, h2, h3⟩ := h.real
  obtain ⟨Q, k1, k2, k3⟩ := k.real
  have := h.le Q k1 k2
  have := k.le P h1 h2
  omega
theorem need_of_least {d : Nat} (h1 : ∃ a, be a ∧ Least m nb ok en c a d) (h2 : ∀ a e, be a → Least m nb ok en c a e → d ≤ e) : Need m nb ok be en c d := by
  obtain ⟨a, ha, hl⟩ := h1
  obtain ⟨P, k1, k2, k3⟩ := hl.real
  refine ⟨⟨P, k1, by rw [k2]; exact ha, k3⟩, fun Q q1 q2 => ?_⟩
  obtain ⟨e, he⟩ := Least.ex (c := c) (a := headN Q) _ ⟨Q, q1, rfl, Nat.le_refl _⟩
  have := h2 _ e q2 he
  have := he.le Q q1 rfl
  omega
end
def flp (n a : Nat) : Nat := a % n * n + a / n
theorem dec_flp {n a : Nat} (hn : 0 < n) (h : a < n * n) : dec n (flp n a) = ((dec n a).2, (dec n a).1) := by
  have h1 : a / n < n := Nat.div_lt_of_lt_mul h
  have : flp n a = enc n (a % n, a / n) := rfl
  rw [this, dec_enc h1]
  rfl
theorem flp_lt {n a : Nat} (hn : 0 < n) (h : a < n * n) : flp n a < n * n := enc_lt (p := (a % n, a / n)) ⟨Nat.mod_lt _ hn, Nat.div_lt_of_lt_mul h⟩
theorem flp_flp {n a : Nat} (hn : 0 < n) (h : a < n * n) : flp n (flp n a) = a := by
  have h1 := dec_flp hn h
  have h2 : (flp n a) / n = a % n := congrArg Prod.fst h1
  have h3 : (flp n a) % n = a / n := congrArg Prod.snd h1
  show (flp n a) % n * n + (flp n a) / n = a
  rw [h2, h3, Nat.mul_comm]
  exact Nat.div_add_mod a n
end Go.Proofs.YtlmgkmmdaecpdaaDoor.Mi

namespace Go.Proofs.YtlmgkmmdaecpdaaDoor.Im
open Go.RowKit Go.Proofs.YtlmgkmmdaecpdaaDoorW.PrintWords Go.Proofs.YtlmgkmmdaecpdaaDoorW.PrintLast Go.Proofs.YtlmgkmmdaecpdaaDoorW.PrintMore Go.Proofs.YtlmgkmmdaecpdaaDoor.Mi
set_option linter.unusedVariables false
def oi : Option Nat → Int | none => -1 | some d => (d : Nat)
def rowO (m : Nat) (out : Nat → Option Nat) : List Int := (List.range m).map fun a => oi (out a)
theorem rowO_len (m : Nat) (out : Nat → Option Nat) : (rowO m out).length = m := by simp [rowO]
theorem rowO_get {m j : Nat} (out : Nat → Option Nat) (h : j < m) : rd (rowO m out) (j : Nat) = oi (out j) := by
  unfold rd rowO
  simp [h]
theorem rowO_start (m : Nat) : rowO m (fun _ => none) = List.replicate m (-1) := by
  unfold rowO
  show (List.range m).map (fun _ => (-1 : Int)) = _
  rw [List.map_const']; simp
theorem rowO_set {m a : Nat} (out : Nat → Option Nat) (b : Option Nat) (h : a < m) : (rowO m out).set a (oi b) = rowO m (upd out a b) := by
  apply List.ext_getElem
  · simp [rowO]
  · intro i h1 h2
    simp [rowO] at h1 h2
    simp only [rowO, List.getElem_set, List.getElem_map, List.getElem_range, upd]
    by_cases e : a = i
    · subst e; simp
    · rw [if_neg e, if_neg (Ne.symm e)]
theorem snoc_ind {α : Type} {P : List α → Prop} (h0 : P []) (hs : ∀ l x, P l → P (l ++ [x])) (l : List α) : P l := by
  have : ∀ r : List α, P r.reverse := fun r => by
    induction r with
    | nil => exact h0
    | cons x r ih => rw [List.reverse_cons]; exact hs _ _ ih
  have h := this l.reverse
  rwa [List.reverse_reverse] at h
def stepB (out : Nat → Option Nat) (own : Nat) (b : Option Nat) (j : Nat) : Option Nat :=
  match out j with
  | none => b
  | some d => match b with
    | none => some (d + own)
    | some x => if d + own < x then some (d + own) else some x
def foldB (out : Nat → Option Nat) (own : Nat) (b0 : Option Nat) (l : List Nat) : Option Nat := l.foldl (stepB out own) b0
theorem foldB_snoc (out : Nat → Option Nat) (own : Nat) (b0 : Option Nat) (l : List Nat) (j : Nat) : foldB out own b0 (l ++ [j]) = stepB out own (foldB out own b0 l) j := by
  unfold foldB
  rw [List.foldl_append]
  rfl
theorem foldB_from {out : Nat → Option Nat} {own : Nat} {b0 : Option Nat} : ∀ (l : List Nat) (d : Nat), foldB out own b0 l = some d → b0 = some d ∨ ∃ j e, j ∈ l ∧ out j = some e ∧ d = e + own := by
  intro l
  induction l using snoc_ind with
  | h0 => intro d h; exact .inl h
  | hs l j ih =>
    intro d h
    rw [foldB_snoc] at h
    unfold stepB at h
    have up : foldB out own b0 l = some d → b0 = some d ∨ ∃ j' e, j' ∈ l ++ [j] ∧ out j' = some e ∧ d = e + own := fun hf => by
      rcases ih d hf with h1 | ⟨j', e, h1, h2, h3⟩
      · exact .inl h1
      · exact .inr ⟨j', e, by simp [h1], h2, h3⟩
    cases ho : out j with
    | none => rw [ho] at h; exact up h
    | some e =>
      rw [ho] at h
      have here : d = e + own → b0 = some d ∨ ∃ j' e, j' ∈ l ++ [j] ∧ out j' = some e ∧ d = e + own := fun hd => .inr ⟨j, e, by simp, ho, hd⟩
      cases hf : foldB out own b0 l with
      | none => rw [hf] at h; exact here (Option.some.inj h).symm
      | some x =>
        rw [hf] at h
        simp only at h
        split at h
        · exact here (Option.some.inj h).symm
        · exact up (by rw [hf]; exact h)
theorem foldB_le {out : Nat → Option Nat} {own : Nat} {b0 : Option Nat} : ∀ (l : List Nat), (∀ x, b0 = some x → ∃ d, foldB out own b0 l = some d ∧ d ≤ x) ∧ ∀ j e, j ∈ l → out j = some e → ∃ d, foldB out own b0 l = some d ∧ d ≤ e + own := by
  intro l
  induction l using snoc_ind with
  | h0 => exact ⟨fun x h => ⟨x, h, Nat.le_refl _⟩, fun j e h => by cases h⟩
  | hs l j ih =>
    have mono : ∀ x, foldB out own b0 l = some x → ∃ d, foldB out own b0 (l ++ [j]) = some d ∧ d ≤ x := fun x hx => by
      rw [foldB_snoc, hx]
      unfold stepB
      cases out j with
      | none => exact ⟨x, rfl, Nat.le_refl _⟩
      | some e =>
        simp only
        split
        · exact ⟨_, rfl, by omega⟩
        · exact ⟨x, rfl, Nat.le_refl _⟩
    constructor
    · intro x hx
      obtain ⟨d, h1, h2⟩ := ih.1 x hx
      obtain ⟨d', h3, h4⟩ := mono d h1
      exact ⟨d', h3, by omega⟩
    · intro j' e hj he
      rw [List.mem_append, List.mem_singleton] at hj
      rcases hj with hj | rfl
      · obtain ⟨d, h1, h2⟩ := ih.2 j' e hj he
        obtain ⟨d', h3, h4⟩ := mono d h1
        exact ⟨d', h3, by omega⟩
      · rw [foldB_snoc]
        unfold stepB
        rw [he]
        cases foldB out own b0 l with
        | none => exact ⟨_, rfl, Nat.le_refl _⟩
        | some x =>
          simp only
          split
          · exact ⟨_, rfl, Nat.le_refl _⟩
          · exact ⟨x, rfl, by omega⟩
theorem best_fold {m a : Nat} {nb : Nat → Nat → Prop} {en : Nat → Prop} [DecidablePred en] {c : Nat → Nat} {out : Nat → Option Nat} {l : List Nat} (hl : ∀ j, j ∈ l → nb a j) (hl2 : ∀ j e, nb a j → out j = some e → j ∈ l) :
    Best m nb en c out a (foldB out (c a) (if en a then some (c a) else none) l) where
  from_ := fun d hd => by
    rcases foldB_from l d hd with h | ⟨j, e, h1, h2, h3⟩
    · by_cases he : en a
      · rw [if_pos he] at h; exact .inl ⟨he, (Option.some.inj h).symm⟩
      · rw [if_neg he] at h; cases h
    · exact .inr ⟨j, e, hl j h1, h2, h3⟩
  fin := fun he => (foldB_le l).1 _ (by rw [if_pos he])
  on := fun j e h1 h2 => (foldB_le l).2 j e (hl2 j e h1 h2) h2
def okC (bs : List Int) (cost : Int → Int) (a : Nat) : Prop := 0 ≤ cost (bs.getD a 0)
def enP (n : Nat) (p : Int) (a : Nat) : Prop := endK n a p = n - 1
def beP (n : Nat) (p : Int) (a : Nat) : Prop := endK n a p = 0
def coC (bs : List Int) (cost : Int → Int) (a : Nat) : Nat := (cost (bs.getD a 0)).toNat
instance (n : Nat) (p : Int) (a : Nat) : Decidable (enP n p a) := by unfold enP; infer_instance
instance (n : Nat) (p : Int) (a : Nat) : Decidable (beP n p a) := by unfold beP; infer_instance
structure FarI (n : Nat) (p : Int) (bs : List Int) (cost : Int → Int) (k a : Nat) (out : Nat → Option Nat) : Prop where
  mid : Mid (n * n) (NearN n) (okC bs cost) (enP n p) (coC bs cost) k a out
  low : ∀ x d, out x = some d → x < n * n ∧ d ≤ k * (n * n) + a
theorem FarI.start (n : Nat) (p : Int) (bs : List Int) (cost : Int → Int) : FarI n p bs cost 0 0 (fun _ => none) := ⟨mid_start, fun _ _ h => by cases h⟩
theorem FarI.round {n : Nat} {p : Int} {bs : List Int} {cost : Int → Int} {k : Nat} {out : Nat → Option Nat} (h : FarI n p bs cost k (n * n) out) : FarI n p bs cost (k + 1) 0 out :=
  ⟨h.mid.round, fun x d hd => ⟨(h.low x d hd).1, by have := (h.low x d hd).2; rw [Nat.succ_mul]; omega⟩⟩
theorem FarI.skip {n : Nat} {p : Int} {bs : List Int} {cost : Int → Int} {k a : Nat} {out : Nat → Option Nat} (h : FarI n p bs cost k a out) (ho : ¬ okC bs cost a) : FarI n p bs cost k (a + 1) out :=
  ⟨h.mid.skip ho, fun x d hd => ⟨(h.low x d hd).1, by have := (h.low x d hd).2; omega⟩⟩
def bestO (n : Nat) (p : Int) (out : Nat → Option Nat) (a own : Nat) : Option Nat := foldB out own (if enP n p a then some own else none) (nbL n a)
theorem FarI.upd {n : Nat} {p : Int} {bs : List Int} {cost : Int → Int} {k a own : Nat} {out : Nat → Option Nat} (h : FarI n p bs cost k a out) (ha : a < n * n) (ho : okC bs cost a) (hw : coC bs cost a = own) (hown : own ≤ 1) :
    FarI n p bs cost k (a + 1) (upd out a (bestO n p out a own)) := by
  have hb : Best (n * n) (NearN n) (enP n p) (coC bs cost) out a (bestO n p out a own) := by
    unfold bestO
    rw [← hw]
    exact best_fold (fun j hj => (mem_nbL.1 hj).2) (fun j e h1 h2 => mem_nbL.2 ⟨(h.low j e h2).1, h1⟩)
  refine ⟨h.mid.upd hb ha ho, fun x d hd => ?_⟩
  unfold Mi.upd at hd
  split at hd
  · rename_i hx
    subst hx
    refine ⟨ha, ?_⟩
    rcases hb.from_ d hd with ⟨_, h1⟩ | ⟨j, e, _, h2, h3⟩
    · omega
    · have := (h.low j e h2).2; omega
  · exact ⟨(h.low x d hd).1, by have := (h.low x d hd).2; omega⟩
def FarOf (n : Nat) (p : Int) (bs : List Int) (cost : Int → Int) (out : Nat → Option Nat) : Prop :=
  ∀ a, (∀ d, out a = some d → Least (n * n) (NearN n) (okC bs cost) (enP n p) (coC bs cost) a d) ∧ (out a = none → ∀ P, Wy (n * n) (NearN n) (okC bs cost) (enP n p) P → headN P ≠ a)
theorem FarI.all {n : Nat} {p : Int} {bs : List Int} {cost : Int → Int} {out : Nat → Option Nat} (h : FarI n p bs cost (n * n) 0 out) : FarOf n p bs cost out := fun a => h.mid.all a
end Go.Proofs.YtlmgkmmdaecpdaaDoor.Im

namespace Go.Proofs.YtlmgkmmdaecpdaaDoor.Im
open Go.RowKit Go.Proofs.YtlmgkmmdaecpdaaDoorW.PrintWords Go.Proofs.YtlmgkmmdaecpdaaDoorW.PrintLast Go.Proofs.YtlmgkmmdaecpdaaDoorW.PrintMore Go.Proofs.YtlmgkmmdaecpdaaDoor.Mi
attribute [local go_sem] max2_int min2_int max_two min_two max_three min_three max_four min_four
set_option linter.unusedVariables false
structure Brd (w : World) (g n gb cb : Nat) (bs : List Int) : Prop where
  hd : Blk w g 89 #[.int .i64 n, .slice (some ⟨gb, 0, none⟩) (n * n) cb]
  row : Kd.C (Kd.int .u8) w (some ⟨gb, 0, none⟩) (n * n) bs
  len : bs.length = n * n
  n1 : 1 ≤ n
  n11 : n ≤ 11
theorem Brd.later {w w' : World} {g n gb cb : Nat} {bs : List Int} (h : Brd w g n gb cb bs) (hb : Below w.heap.size w w') : Brd w' g n gb cb bs := ⟨h.hd.later hb, Kd.C_below h.row hb, h.len, h.n1, h.n11⟩
theorem Steps.later {w w' : World} (h : Steps w) (hb : Below w.heap.size w w') : Steps w' := Blk.later h hb
structure CostC (w : World) (f : FuncId) (cap : Array Value) (cost : Int → Int) : Prop where
  enter : ∀ args w, (callFunc f args).run Tryd.prog w = .ok (.enter f args) w
  calls : ∀ c w1, Below w.heap.size w w1 → Calls Tryd.prog f (#[.int .u8 c] ++ cap) w1 fun e w2 => e = .returned (.int .i64 (cost c)) ∧ Below w1.heap.size w1 w2
theorem CostC.later {w w' : World} {f : FuncId} {cap : Array Value} {cost : Int → Int} (h : CostC w f cap cost) (hb : Below w.heap.size w w') : CostC w' f cap cost :=
  ⟨h.enter, fun c w1 h1 => h.calls c w1 (below_then hb hb.size h1)⟩
theorem byte_at {w : World} {gb m : Nat} {bs : List Int} (h : Kd.C (Kd.int .u8) w (some ⟨gb, 0, none⟩) m bs) (a : Nat) (ha : a < m) : w.cell? ⟨gb, a, none⟩ = some (.int .u8 (bs.getD a 0)) := by
  obtain ⟨ad, e, hc⟩ := Kd.at_int h (a : Int) (by omega) (by omega)
  cases e
  rw [Int.toNat_natCast] at hc
  have e : (⟨gb, 0, none⟩ : Addr).add a = ⟨gb, a, none⟩ := by unfold Addr.add; by_cases h : a = 0 <;> simp [h]
  rw [e] at hc
  rw [hc]
  unfold rd
  rw [Int.toNat_natCast]
def FarPost (n : Nat) (p : Int) (bs : List Int) (cost : Int → Int) (w : World) (e : Ending) (w' : World) : Prop :=
  ∃ out v, e = .returned v ∧ Kd.R (Kd.int .i64) 3 w' w.heap.size (fun _ => True) v (rowO (n * n) out) ∧ FarOf n p bs cost out ∧ Below w.heap.size w w'
set_option maxHeartbeats 6400000 in
set_option maxRecDepth 100000 in
theorem far_any (g n gb cb : Nat) (bs : List Int) (p : Int) (f : FuncId) (cap : Array Value) (cost : Int → Int) (w : World) (hs : Steps w) (hb : Brd w g n gb cb bs) (hc : CostC w f cap cost) (h1 : ∀ c, cost c ≤ 1) :
    Calls Tryd.prog 46 #[.pointer (some ⟨g, 0, none⟩), .int .u8 p, .func (.func f) #[] cap] w (FarPost n p bs cost w) := by
  have n1 := hb.n1
  have n11 := hb.n11
  obtain ⟨m, hm⟩ : ∃ m, n * n = m := ⟨_, rfl⟩
  have hm1 : 1 ≤ m := by rw [← hm]; exact Nat.mul_pos n1 n1
  have hm121 : m ≤ 121 := by rw [← hm]; exact Nat.mul_le_mul n11 n11
  have hd0 : w.cell? ⟨g, 0, none⟩ = some (.int .i64 n) := hb.hd.cell 0
  have hd1 : w.cell? ⟨g, 1, none⟩ = some (.slice (some ⟨gb, 0, none⟩) m cb) := by rw [← hm]; exact hb.hd.cell 1
  have HS := Aside0.mk hs
  have HB := Aside0.mk hb
  have HC := Aside0.mk hc
  have H1 := Aside0.mk h1
  have HM := Aside0.mk hm
  clear hs hb hc h1 hm
  have hgl : g < w.heap.size := HB.out.hd.lt
  go_enter Tryd.func46, Tryd.ntmps46
  go_wp2_with fail
  have hbl : Below w.heap.size w (w.alloc (.cells #[.int .i64 (-1)] 3)) := below_alloc (Below.refl _ _) _
  have hrep := repeat_any m hm1 (by omega) w.heap.size _ (Blk.new w 3 #[.int .i64 (-1)])
  refine hrep.mono ?_
  rintro e w1 ⟨v, rfl, hR1, hb1⟩
  have HB1 := Aside0.mk (below_then hbl hbl.size hb1)
  have HR1 := Aside0.mk (Kd.R_lower hR1 (Nat.le_trans hbl.size (Nat.le_refl _)))
  clear hrep hbl hR1 hb1
  obtain ⟨go, co, rfl, hgo, hgl1, _⟩ := Kd.R_form HR1.out (by rw [List.length_replicate]; omega)
  rw [List.length_replicate] at HR1 ⊢
  rw [← rowO_start] at HR1
  have HGO := Aside0.mk hgo
  clear hgo hgl1
  go_wp2_with fail
  go_loopw [25] (fun v25 wr => ∃ k : Nat, k ≤ m ∧ v25 = .int .i64 (k : Int) ∧ ∃ out : Nat → Option Nat, Aside0 (FarI n p bs cost k 0 out) ∧ Aside0 (Kd.R (Kd.int .i64) 3 wr w.heap.size (fun _ => True) (.slice (some ⟨go, 0, none⟩) m co) (rowO m out)) ∧ Aside0 (Below w.heap.size w wr)) (fun v _ => m - (intOf v).toNat)
  case atStart => exact ⟨0, Nat.zero_le _, rfl, fun _ => none, ⟨FarI.start n p bs cost⟩, HR1, HB1⟩
  case round =>
    clear HR1 HB1 hd0 hd1
    obtain ⟨k, hk, rfl, out, HF, HR, HBr⟩ := hrel
    by_cases hkm : k < m
    · have hd0 : wr.cell? ⟨g, 0, none⟩ = some (.int .i64 n) := (HB.out.later HBr.out).hd.cell 0
      have hd1 : wr.cell? ⟨g, 1, none⟩ = some (.slice (some ⟨gb, 0, none⟩) m cb) := by rw [← HM.out]; exact (HB.out.later HBr.out).hd.cell 1
      go_wp2_with fail
      go_loopw [32] (fun v32 wr => ∃ a : Nat, a ≤ m ∧ v32 = .int .i64 (a : Int) ∧ ∃ out : Nat → Option Nat, Aside0 (FarI n p bs cost k a out) ∧ Aside0 (Kd.R (Kd.int .i64) 3 wr w.heap.size (fun _ => True) (.slice (some ⟨go, 0, none⟩) m co) (rowO m out)) ∧ Aside0 (Below w.heap.size w wr)) (fun v _ => m - (intOf v).toNat)
      case atStart => exact ⟨0, Nat.zero_le _, rfl, out, HF, HR, HBr⟩
      case round =>
        clear HF HR HBr hd0 hd1
        obtain ⟨a, ha, rfl, out, HF, HR, HBr⟩ := hrel
        by_cases ham : a < m
        · have hba : wr.cell? ⟨gb, a, none⟩ = some (.int .u8 (bs.getD a 0)) := byte_at (by rw [← HM.out]; exact (HB.out.later HBr.out).row) a ham
          obtain ⟨x, hx⟩ : ∃ x, bs.getD a 0 = x := ⟨_, rfl⟩
          rw [hx] at hba
          have HX := Aside0.mk hx
          clear hx
          have HCx := Aside0.mk ((HC.out.later HBr.out).calls x _ (Below.refl _ _))
          have hent := HC.out.enter
          have hle := H1.out x
          go_wp2_with fail
          refine HCx.out.mono ?_
          rintro e w2 ⟨rfl, hb2⟩
          have HB2 := Aside0.mk (below_then HBr.out HBr.out.size hb2)
          have HR2 := Aside0.mk (Kd.R_below HR.out hb2)
          clear HR HBr hba HCx hb2
          have HOK : Aside0 (okC bs cost a ↔ 0 ≤ cost x) := ⟨by unfold okC; rw [HX.out]⟩
          have HCO : Aside0 (coC bs cost a = (cost x).toNat) := ⟨by unfold coC; rw [HX.out]⟩
          by_cases hneg : cost x < 0
          · have HF2 := Aside0.mk (HF.out.skip (fun h => by have := HOK.out.1 h; omega))
            generalize cost x = y at *
            go_wp2_with fail
            go_roundw
            case rel => exact ⟨a + 1, by omega, by go_num, out, HF2, HR2, HB2⟩
            case measure => simp [intOf]; omega
          · obtain ⟨own, hown⟩ : ∃ own : Nat, cost x = own := ⟨(cost x).toNat, by omega⟩
            rw [hown] at hle HCO HOK hneg ⊢
            clear hown
            have ho1 : own ≤ 1 := by omega
            have HF2 := Aside0.mk (HF.out.upd (by rw [HM.out]; exact ham) (HOK.out.2 (by omega)) (by rw [HCO.out]; rfl) ho1)
            have hlow := HF.out.low
            have HE := Aside0.mk (ends_any g n a _ p w2 n1 n11 (by rw [HM.out]; exact ham) (HB.out.later HB2.out).hd)
            clear HOK HCO
            have HN := Aside0.mk (fun w' (hb : Below w2.heap.size w2 w') => neighbours_any g n a _ w' n1 n11 (by rw [HM.out]; exact ham) ((HS.out.later HB2.out).later hb) ((HB.out.later HB2.out).later hb).hd)
            have hnb : ∀ j ∈ nbL n a, j < m := fun j hj => by rw [← HM.out]; exact (mem_nbL.1 hj).1
            have HNB := Aside0.mk hnb
            have hnl : (nbL n a).length ≤ m := by rw [← HM.out]; have := List.length_filter_le (fun j => decide (NearN n a j)) (List.range (n * n)); simpa [nbL] using this
            have hbo : bestO n p out a own = foldB out own (if enP n p a then some own else none) (nbL n a) := rfl
            rw [hbo] at HF2
            have hlw : ∀ x d, out x = some d → d ≤ 14762 := fun x d hd => by
              have h := (hlow x d hd).2
              rw [HM.out] at h
              have : k * m ≤ 121 * 121 := Nat.mul_le_mul (by omega) (by omega)
              omega
            have HLW := Aside0.mk hlw
            clear hnb hbo hlow hlw
            obtain ⟨lb, hlb⟩ : ∃ lb : Bool, decide (endK n a p = n - 1) = lb := ⟨_, rfl⟩
            obtain ⟨fb, hfb⟩ : ∃ fb : Bool, decide (endK n a p = 0) = fb := ⟨_, rfl⟩
            rw [hlb, hfb] at HE
            have hkey : (lb = true ∧ (if enP n p a then some own else none) = some own) ∨ (lb = false ∧ (if enP n p a then some own else none) = none) := by
              unfold enP
              cases lb with
              | true => exact .inl ⟨rfl, if_pos (of_decide_eq_true hlb)⟩
              | false => exact .inr ⟨rfl, if_neg (of_decide_eq_false hlb)⟩
            clear hlb hfb
            generalize (if enP n p a then some own else none) = b0 at *
            generalize nbL n a = nb at *
            rcases hkey with ⟨rfl, hb0⟩ | ⟨rfl, hb0⟩ <;>
            (have HB0 := Aside0.mk hb0
             clear hb0
             go_wp2_with fail
             refine HE.out.mono ?_
             rintro e w3 ⟨rfl, hb3⟩
             have HB3 := Aside0.mk hb3
             clear hb3 HE
             go_wp2_with fail
             refine (HN.out _ HB3.out).mono ?_
             rintro e w4 ⟨v4, rfl, hR4, hb4⟩
             obtain ⟨A4, c4, rfl, hl4, hC4⟩ := Kd.R_reads hR4
             have hb24 := below_then HB3.out HB3.out.size hb4
             have HB4 := Aside0.mk (below_then HB2.out HB2.out.size hb24)
             have HR4 := Aside0.mk (Kd.R_below HR2.out hb24)
             have HC4 := Aside0.mk hC4
             have hil : (ints nb).length = nb.length := ints_length nb
             rw [hil] at HC4 hl4 ⊢
             clear hR4 hb4 hC4 hb24 HN HB3 HB2 HR2
             go_wp2_with fail
             go_loopw [11, 55] (fun v11 v55 wr => ∃ q : Nat, q ≤ nb.length ∧ v55 = .int .i64 (q : Int) ∧ v11 = .int .i64 (oi (foldB out own b0 (nb.take q))) ∧ Aside0 (Below w4.heap.size w4 wr)) (fun _ v _ => nb.length - (intOf v).toNat)
             case atStart => exact ⟨0, Nat.zero_le _, rfl, by rw [HB0.out]; rfl, ⟨Below.refl _ _⟩⟩
             case round =>
               clear HB0
               obtain ⟨q, hq, rfl, rfl, HBq⟩ := hrel
               by_cases hqn : q < nb.length
               · obtain ⟨ad, rfl, cx⟩ := Kd.at_int HC4.out (q : Int) (by omega) (by omega)
                 replace cx := (HBq.out.cell (World.block_lt_of_cell? w4 _ cx)).trans cx
                 rw [rd_ints, Int.toNat_natCast] at cx
                 have hgd : nb.getD q 0 = nb[q] := by rw [List.getD_eq_getElem?_getD, List.getElem?_eq_getElem hqn]; rfl
                 have hjm : nb.getD q 0 < m := by rw [hgd]; exact HNB.out _ (List.getElem_mem hqn)
                 have hst := foldB_snoc out own b0 (nb.take q) nb[q]
                 rw [← List.take_succ_eq_append_getElem hqn, ← hgd] at hst
                 clear hgd
                 generalize nb.getD q 0 = j at *
                 have HRq := Kd.R_below HR4.out HBq.out
                 obtain ⟨hx1, _⟩ := Kd.R_celln 0 HRq (j : Int) (by omega) (by omega)
                 rw [Int.toNat_natCast] at hx1
                 have hx2 : wr.cell? ⟨go, j, none⟩ = some (.int .i64 (oi (out j))) := by rw [← rowO_get out hjm]; exact hx1
                 have j0 : (0 : Int) ≤ (j : Int) := Int.natCast_nonneg j
                 have j1 : (j : Int) < (m : Int) := Int.ofNat_lt.2 hjm
                 unfold stepB at hst
                 clear HRq hx1
                 cases ho : out j with
                 | none =>
                   rw [ho] at hx2 hst
                   have HST := Aside0.mk (congrArg oi hst)
                   have hx3 : wr.cell? ⟨go, j, none⟩ = some (.int .i64 (-1)) := hx2
                   clear hst hx2 ho
                   generalize oi (foldB out own b0 (nb.take q)) = cur at *
                   go_wp2_with fail
                   go_roundw
                   case rel => exact ⟨q + 1, hqn, rfl, by rw [HST.out], HBq⟩
                   case measure => simp [intOf]; omega
                 | some d =>
                   rw [ho] at hx2 hst
                   have hx3 : wr.cell? ⟨go, j, none⟩ = some (.int .i64 (d : Nat)) := hx2
                   have ws : wrap64 ((d : Int) + (own : Int)) = ((d + own : Nat) : Int) := by
                     have hd14 := HLW.out j d ho
                     unfold wrap64; omega
                   clear hx2 ho
                   cases hb : foldB out own b0 (nb.take q) with
                   | none =>
                     rw [hb] at hst
                     have HST := Aside0.mk hst
                     have e : oi none = -1 := rfl
                     rw [e]
                     clear hst hb
                     go_wp2_with fail
                     go_roundw
                     case rel => exact ⟨q + 1, hqn, rfl, by rw [HST.out, ws]; rfl, HBq⟩
                     case measure => simp [intOf]; omega
                   | some z =>
                     rw [hb] at hst
                     have e : oi (some z) = (z : Int) := rfl
                     rw [e]
                     have z0 : ¬ (z : Int) < 0 := Int.not_lt.2 (Int.natCast_nonneg z)
                     by_cases hlt : d + own < z
                     · simp only [if_pos hlt] at hst
                       have HST := Aside0.mk hst
                       have t1 : decide (d + own < z) = true := decide_eq_true hlt
                       have t2 : decide ((d : Int) + (own : Int) < (z : Int)) = true := decide_eq_true (by rw [← Int.natCast_add]; exact Int.ofNat_lt.2 hlt)
                       clear hst hb hlt
                       go_wp2_with fail
                       go_roundw
                       case rel => exact ⟨q + 1, hqn, rfl, by rw [HST.out, ws]; rfl, HBq⟩
                       case measure => simp [intOf]; omega
                     · simp only [if_neg hlt] at hst
                       have HST := Aside0.mk hst
                       have t1 : decide (d + own < z) = false := decide_eq_false hlt
                       have t2 : decide ((d : Int) + (own : Int) < (z : Int)) = false := decide_eq_false (fun h => hlt (by rw [← Int.natCast_add] at h; exact Int.ofNat_lt.1 h))
                       clear hst hb hlt
                       go_wp2_with fail
                       go_roundw
                       case rel => exact ⟨q + 1, hqn, rfl, by rw [HST.out]; rfl, HBq⟩
                       case measure => simp [intOf]; omega
               · obtain rfl : q = nb.length := by omega
                 rw [List.take_length]
                 have HRq := Aside0.mk (Kd.R_below HR4.out HBq.out)
                 obtain ⟨hx1, hf1⟩ := Kd.R_celln 0 HRq.out (a : Int) (Int.natCast_nonneg a) (Int.ofNat_lt.2 ham)
                 rw [Int.toNat_natCast] at hx1 hf1
                 have HP := Aside0.mk (Kd.R_putg HRq.out (a : Int) (oi (foldB out own b0 nb))).1
                 rw [Int.toNat_natCast, rowO_set out _ ham] at HP
                 have HBx := Aside0.mk (below_then HB4.out HB4.out.size HBq.out)
                 generalize foldB out own b0 nb = bst at *
                 have a0 : (0 : Int) ≤ (a : Int) := Int.natCast_nonneg a
                 have a1 : (a : Int) < (m : Int) := Int.ofNat_lt.2 ham
                 clear HRq HR4 HB4 HBq HC4
                 go_wp2_with fail
                 go_roundw
                 case rel => exact ⟨a + 1, ham, by go_num, upd out a bst, HF2, HP, ⟨below_set HBx.out HGO.out⟩⟩
                 case measure => simp [intOf]; omega)
        · obtain rfl : a = m := by omega
          have HF2 := Aside0.mk (show FarI n p bs cost (k + 1) 0 out by have h := HF.out; rw [← HM.out] at h; exact h.round)
          go_wp2_with fail
          go_roundw
          case rel => exact ⟨k + 1, hkm, by go_num, out, HF2, HR, HBr⟩
          case measure => simp [intOf]; omega
    · obtain rfl : k = m := by omega
      have HF2 := Aside0.mk (show FarOf n p bs cost out by have h := HF.out; rw [← HM.out] at h; exact h.all)
      go_wp2_with fail
      go_ret
      exact ⟨out, _, rfl, by rw [HM.out]; exact HR.out, HF2.out, HBr.out⟩
end Go.Proofs.YtlmgkmmdaecpdaaDoor.Im

namespace Go.Proofs.YtlmgkmmdaecpdaaDoor.Im
open Go.RowKit Go.Proofs.YtlmgkmmdaecpdaaDoorW.PrintWords Go.Proofs.YtlmgkmmdaecpdaaDoorW.PrintLast Go.Proofs.YtlmgkmmdaecpdaaDoorW.PrintMore Go.Proofs.YtlmgkmmdaecpdaaDoor.Mi
set_option linter.unusedVariables false
def okP (bs : List Int) (p : Int) (a : Nat) : Prop := bs.getD a 0 = p
instance (bs : List Int) (p : Int) (a : Nat) : Decidable (okP bs p a) := by unfold okP; infer_instance
def cost1 (p c : Int) : Int := if c = p then 1 else -1
theorem cost1_le (p c : Int) : cost1 p c ≤ 1 := by unfold cost1; split <;> omega
abbrev WyP (n : Nat) (bs : List Int) (p : Int) (P : List Nat) : Prop := Wy (n * n) (NearN n) (okP bs p) (enP n p) P
abbrev DistP (n : Nat) (bs : List Int) (p : Int) (a d : Nat) : Prop := Dist (n * n) (NearN n) (okP bs p) (enP n p) a d
abbrev FirstP (n : Nat) (bs : List Int) (p : Int) (G : List Nat) : Prop := First (n * n) (NearN n) (okP bs p) (beP n p) (enP n p) G
theorem okC_one (bs : List Int) (p : Int) : okC bs (cost1 p) = okP bs p := by
  funext a
  apply propext
  unfold okC okP cost1
  split <;> omega
theorem cost_way {n : Nat} {bs : List Int} {p : Int} {P : List Nat} (h : WyP n bs p P) : costN (coC bs (cost1 p)) P = costN Mi.one P := by
  have : ∀ Q : List Nat, (∀ q ∈ Q, okP bs p q) → costN (coC bs (cost1 p)) Q = costN Mi.one Q := fun Q => by
    induction Q with
    | nil => intro _; rfl
    | cons q Q ih =>
      intro hq
      have h1 : coC bs (cost1 p) q = 1 := by
        have : bs.getD q 0 = p := hq q (by simp)
        unfold coC cost1
        rw [this, if_pos rfl]
        rfl
      show coC bs (cost1 p) q + costN _ Q = 1 + costN Mi.one Q
      rw [h1, ih fun r hr => hq r (List.mem_cons_of_mem _ hr)]
  exact this P fun q hq => (h.mem q hq).2
def DisOf (n : Nat) (bs : List Int) (p : Int) (out : Nat → Option Nat) : Prop :=
  ∀ a, (∀ d, out a = some d → DistP n bs p a d) ∧ (out a = none → ∀ P, WyP n bs p P → headN P ≠ a)
theorem dis_of {n : Nat} {bs : List Int} {p : Int} {out : Nat → Option Nat} (h : FarOf n p bs (cost1 p) out) : DisOf n bs p out := fun a => by
  obtain ⟨h1, h2⟩ := h a
  rw [okC_one] at h1 h2
  refine ⟨fun d hd => ?_, h2⟩
  obtain ⟨⟨P, k1, k2, k3⟩, k4⟩ := h1 d hd
  refine ⟨⟨P, k1, k2, by rw [← cost_way k1]; exact k3⟩, fun Q hQ hh => ?_⟩
  have := k4 Q hQ hh
  rwa [cost_way hQ] at this
section
variable {n : Nat} {bs : List Int} {p : Int} {out : Nat → Option Nat}
theorem DisOf.get (h : DisOf n bs p out) {a d : Nat} (hd : DistP n bs p a d) : out a = some d := by
  cases ho : out a with
  | none =>
    obtain ⟨P, k1, k2, _⟩ := hd.real
    exact absurd k2 ((h a).2 ho P k1)
  | some e => rw [((h a).1 e ho).unique hd]
theorem DisOf.low (h : DisOf n bs p out) {a d : Nat} (hd : out a = some d) : a < n * n ∧ okP bs p a ∧ 1 ≤ d := by
  obtain ⟨P, k1, k2, k3⟩ := ((h a).1 d hd).real
  match P, k1, k2, k3 with
  | [], k1, _, _ => exact absurd rfl k1.ne
  | q :: t, k1, k2, k3 =>
    have k2 : q = a := k2
    subst k2
    have := k1.mem q (by simp)
    have k3 : 1 + costN Mi.one t = d := k3
    exact ⟨this.1, this.2, by omega⟩
structure ScanI (n : Nat) (p : Int) (out : Nat → Option Nat) (i : Nat) (at_ : Option Nat) : Prop where
  no : at_ = none → ∀ x, x < i → beP n p x → out x = none
  yes : ∀ a, at_ = some a → a < i ∧ beP n p a ∧ ∃ d, out a = some d ∧ ∀ x, x < i → beP n p x → ∀ e, out x = some e → d ≤ e ∧ (e = d → a ≤ x)
theorem ScanI.start (n : Nat) (p : Int) (out : Nat → Option Nat) : ScanI n p out 0 none := ⟨fun _ x hx => absurd hx (by omega), fun a h => by cases h⟩
theorem ScanI.skip {i : Nat} {at_ : Option Nat} (h : ScanI n p out i at_) (hs : beP n p i → ∀ e, out i = some e → ∃ a d, at_ = some a ∧ out a = some d ∧ d ≤ e) : ScanI n p out (i + 1) at_ where
  no := fun hn x hx hb => by
    rcases Nat.lt_or_ge x i with h1 | h1
    · exact h.no hn x h1 hb
    · obtain rfl : x = i := by omega
      cases ho : out x with
      | none => rfl
      | some e =>
        obtain ⟨a, d, h2, _⟩ := hs hb e ho
        rw [hn] at h2; cases h2
  yes := fun a ha => by
    obtain ⟨h1, h2, d, h3, h4⟩ := h.yes a ha
    refine ⟨by omega, h2, d, h3, fun x hx hb e he => ?_⟩
    rcases Nat.lt_or_ge x i with h5 | h5
    · exact h4 x h5 hb e he
    · obtain rfl : x = i := by omega
      obtain ⟨a', d', k1, k2, k3⟩ := hs hb e he
      rw [ha] at k1; cases k1
      rw [h3] at k2; cases k2
      exact ⟨k3, fun _ => by omega⟩
theorem ScanI.take {i d : Nat} {at_ : Option Nat} (h : ScanI n p out i at_) (hb : beP n p i) (hd : out i = some d) (hs : ∀ a e, at_ = some a → out a = some e → d < e) : ScanI n p out (i + 1) (some i) where
  no := fun h => by cases h
  yes := fun a ha => by
    cases ha
    refine ⟨by omega, hb, d, hd, fun x hx hbx e he => ?_⟩
    rcases Nat.lt_or_ge x i with h5 | h5
    · cases hat : at_ with
      | none => rw [h.no hat x h5 hbx] at he; cases he
      | some a =>
        obtain ⟨_, _, d', k1, k2⟩ := h.yes a hat
        have := hs a d' hat k1
        have := (k2 x h5 hbx e he).1
        exact ⟨by omega, fun _ => by omega⟩
    · obtain rfl : x = i := by omega
      rw [hd] at he; cases he
      exact ⟨Nat.le_refl _, fun _ => Nat.le_refl _⟩
structure FolI (n : Nat) (bs : List Int) (p : Int) (out : Nat → Option Nat) (a0 d0 : Nat) (G : List Nat) (a r : Nat) : Prop where
  here : out a = some r
  len : G.length + r = d0 + 1
  head : G.head? = some a0
  ext : ∀ T, T.length + 1 = r → WyP n bs p (a :: T) → Greedy (n * n) (NearN n) (okP bs p) (enP n p) (a :: T) → WyP n bs p (G ++ T) ∧ Greedy (n * n) (NearN n) (okP bs p) (enP n p) (G ++ T)
theorem FolI.start {a0 d0 : Nat} (h : out a0 = some d0) : FolI n bs p out a0 d0 [a0] a0 d0 := ⟨h, by simp; omega, rfl, fun T _ h1 h2 => ⟨h1, h2⟩⟩
theorem FolI.step {a0 d0 a r j : Nat} {G : List Nat} (h : FolI n bs p out a0 d0 G a (r + 2)) (hD : DisOf n bs p out) (hn : NearN n a j) (hj : out j = some (r + 1)) (hl : ∀ x, x < j → NearN n a x → x < n * n → out x ≠ some (r + 1)) :
    FolI n bs p out a0 d0 (G ++ [j]) j (r + 1) where
  here := hj
  len := by have := h.len; simp; omega
  head := by
    have := h.head
    cases G with
    | nil => cases this
    | cons g G => exact this
  ext := fun T hT h1 h2 => by
    obtain ⟨ha1, ha2, _⟩ := hD.low h.here
    have h3 : WyP n bs p (a :: j :: T) := h1.cons ha1 ha2 hn
    have h4 : Greedy (n * n) (NearN n) (okP bs p) (enP n p) (a :: j :: T) := by
      refine ⟨⟨hn, fun x hx hd => ?_⟩, h2⟩
      rw [hT] at hd
      rcases Nat.lt_or_ge x j with h5 | h5
      · have hox := hD.get hd
        exact absurd hox (hl x h5 hx (hD.low hox).1)
      · exact h5
    have := h.ext (j :: T) (by simp; omega) h3 h4
    rwa [List.append_assoc]
theorem FolI.fin {a0 d0 a : Nat} {G : List Nat} (h : FolI n bs p out a0 d0 G a 1) (hD : DisOf n bs p out) (hb : beP n p a0) (h0 : out a0 = some d0) (hs : ∀ x, beP n p x → ∀ e, out x = some e → d0 ≤ e ∧ (e = d0 → a0 ≤ x)) : FirstP n bs p G := by
  have hd1 := Dist.end_ ((hD a).1 1 h.here)
  obtain ⟨h1, h2⟩ := h.ext [] rfl (Wy.one hd1.2.1 hd1.2.2 hd1.1) trivial
  rw [List.append_nil] at h1 h2
  have hl : G.length = d0 := by have := h.len; omega
  have hh : headN G = a0 := by
    have := h.head
    cases G with
    | nil => cases this
    | cons g G => exact Option.some.inj this
  exact ⟨h1, by rw [hh]; exact hb, by rw [hh, hl]; exact (hD a0).1 d0 h0, fun x d hx hd => by rw [hl]; exact (hs x hx d (hD.get hd)).1, fun x hx hd => by
    rw [hl] at hd; rw [hh]; exact (hs x hx d0 (hD.get hd)).2 rfl, h2⟩
end
noncomputable def brO (n : Nat) (bs : List Int) (p : Int) : Option (List Nat) := open Classical in if h : ∃ G, FirstP n bs p G then some (Classical.choose h) else none
theorem brO_some {n : Nat} {bs : List Int} {p : Int} {G : List Nat} (h : FirstP n bs p G) : brO n bs p = some G := by
  have hex : ∃ G, FirstP n bs p G := ⟨G, h⟩
  unfold brO
  rw [dif_pos hex, (Classical.choose_spec hex).unique h]
theorem brO_none {n : Nat} {bs : List Int} {p : Int} (h : ∀ P, WyP n bs p P → ¬ beP n p (headN P)) : brO n bs p = none := by
  unfold brO
  rw [dif_neg]
  rintro ⟨G, hG⟩
  exact h G hG.way hG.start
end Go.Proofs.YtlmgkmmdaecpdaaDoor.Im

