/- Further parts of the same walk: contracts of the functions that the law reaches, each under the conditions that it states. -/
import Derived.Test.YtlmgkmmdaecpdaaDoorC12H
import Derived.WalkMore
namespace Go.Proofs.YtlmgkmmdaecpdaaDoor.Im
open Go.RowKit Go.Proofs.YtlmgkmmdaecpdaaDoorW.PrintWords Go.Proofs.YtlmgkmmdaecpdaaDoorW.PrintLast Go.Proofs.YtlmgkmmdaecpdaaDoorW.PrintMore Go.Proofs.YtlmgkmmdaecpdaaDoor.Mi
set_option linter.unusedVariables false
theorem DisOf.le {n : Nat} {bs : List Int} {p : Int} {out : Nat → Option Nat} (h : DisOf n bs p out) {a d : Nat} (hd : out a = some d) : d ≤ n * n := by
  obtain ⟨P, k1, k2, _⟩ := ((h a).1 d hd).real
  obtain ⟨P', h1, h2, h3, _⟩ := k1.simple (c := Mi.one)
  have := ((h a).1 d hd).le P' h1 (by rw [h2]; exact k2)
  rw [cost_one] at this
  have := nodup_len (n * n) P' h3 (fun x hx => (h1.mem x hx).1)
  omega
theorem bridge1_any (gp : Nat) (p c : Int) (w : World) (hp : Blk w gp 5 #[.int .u8 p]) :
    Calls Tryd.prog 82 #[.int .u8 c, .pointer (some ⟨gp, 0, none⟩)] w fun e w' => e = .returned (.int .i64 (cost1 p c)) ∧ Below w.heap.size w w' := by
  have c0 : w.cell? ⟨gp, 0, none⟩ = some (.int .u8 p) := hp.cell 0
  unfold cost1
  by_cases h : c = p
  · have h' : (c == p) = true := beq_iff_eq.2 h
    rw [if_pos h]
    clear h
    go_enter Tryd.func82, Tryd.ntmps82
    go_wp2_with fail
    go_ret
    exact ⟨rfl, Below.refl _ _⟩
  · have h' : (c == p) = false := beq_eq_false_iff_ne.2 h
    rw [if_neg h]
    clear h
    go_enter Tryd.func82, Tryd.ntmps82
    go_wp2_with fail
    go_ret
    exact ⟨rfl, Below.refl _ _⟩
theorem cost_bridge {gp : Nat} {p : Int} {w : World} (hp : Blk w gp 5 #[.int .u8 p]) : CostC w 82 #[.pointer (some ⟨gp, 0, none⟩)] (cost1 p) :=
  ⟨fun args w => by kernel_rfl, fun c w1 h1 => bridge1_any gp p c w1 (hp.later h1)⟩
theorem asc_take {l : List Nat} (h : l.Pairwise (· < ·)) {q : Nat} (hq : q < l.length) {x : Nat} (hx : x ∈ l) (hl : x < l[q]) : x ∈ l.take q := by
  obtain ⟨i, hi, rfl⟩ := List.getElem_of_mem hx
  rcases Nat.lt_or_ge i q with h1 | h1
  · exact List.mem_take_iff_getElem.2 ⟨i, by omega, rfl⟩
  · exfalso
    rcases Nat.lt_or_ge q i with h2 | h2
    · have := List.pairwise_iff_getElem.1 h q i hq hi h2; omega
    · have : i = q := by omega
      subst this; omega
def BrPost (n : Nat) (bs : List Int) (p : Int) (w : World) (e : Ending) (w' : World) : Prop :=
  Below w.heap.size w w' ∧ match brO n bs p with
    | some G => ∃ A c, e = .returned (.slice (some A) G.length c) ∧ Kd.R (Kd.int .i64) 3 w' w.heap.size (fun _ => True) (.slice (some A) G.length c) (ints G)
    | none => e = .returned (.slice none 0 0)
set_option maxHeartbeats 6400000 in
set_option maxRecDepth 100000 in
theorem bridge_any (g n gb cb : Nat) (bs : List Int) (p : Int) (w : World) (hs : Steps w) (hb : Brd w g n gb cb bs) :
    Calls Tryd.prog 52 #[.pointer (some ⟨g, 0, none⟩), .int .u8 p] w (BrPost n bs p w) := by
  have n1 := hb.n1
  have n11 := hb.n11
  obtain ⟨m, hm⟩ : ∃ m, n * n = m := ⟨_, rfl⟩
  have hm121 : m ≤ 121 := by rw [← hm]; exact Nat.mul_le_mul n11 n11
  have hm1 : 1 ≤ m := by rw [← hm]; exact Nat.mul_pos n1 n1
  have HS := Aside0.mk hs
  have HB := Aside0.mk hb
  have HM := Aside0.mk hm
  clear hs hb hm
  go_enter Tryd.func52, Tryd.ntmps52
  go_wp2_with fail
  have hbl : Below w.heap.size w (w.alloc (.cells #[.int .u8 p] 5)) := below_alloc (Below.refl _ _) _
  have HP0 := Aside0.mk (Blk.new w 5 #[.int .u8 p])
  have HF0 := Aside0.mk (far_any g n gb cb bs p _ _ _ _ (HS.out.later hbl) (HB.out.later hbl) (cost_bridge HP0.out) (cost1_le p))
  have HB0 := Aside0.mk hbl
  clear hbl
  have cp : (w.alloc (.cells #[.int .u8 p] 5)).cell? ⟨w.heap.size, 0, none⟩ = some (.int .u8 p) := HP0.out.cell 0
  go_step3
  go_wp2_with fail
  refine HF0.out.mono ?_
  rintro e w1 ⟨out, v, rfl, hR1, hF1, hb1⟩
  have HD := Aside0.mk (dis_of hF1)
  have HB1 := Aside0.mk (below_then HB0.out HB0.out.size hb1)
  have HP1 := Aside0.mk (HP0.out.later hb1)
  rw [HM.out] at hR1
  have HR1 := Aside0.mk hR1
  clear HF0 hR1 hF1 hb1 HB0 HP0
  obtain ⟨go, co, rfl, hgo, hgl, fc, hfc⟩ := Kd.R_form HR1.out (by rw [rowO_len]; omega)
  rw [rowO_len] at HR1 ⊢
  have HGL := Aside0.mk hgl
  have HFB := Aside0.mk (show Blk w1 go 3 fc from hfc)
  have HFC : Aside0 (∀ x, x < m → fc[x]? = some (.int .i64 (oi (out x)))) := ⟨fun x hx => by
    obtain ⟨hx1, _⟩ := Kd.R_celln 0 HR1.out (x : Int) (Int.natCast_nonneg x) (Int.ofNat_lt.2 hx)
    rw [Int.toNat_natCast, HFB.out.cell x] at hx1
    rw [← rowO_get out hx]; exact hx1⟩
  clear hgl hfc
  have HGO := Aside0.mk hgo
  obtain ⟨gp, hgp⟩ : ∃ gp, w.heap.size = gp := ⟨_, rfl⟩
  clear cp hgo
  rw [hgp] at HP1 ⊢
  go_wp2_with fail
  go_loopw [6, 20] (fun v6 v20 wr => ∃ (i : Nat) (at_ : Option Nat), i ≤ m ∧ v20 = .int .i64 (i : Int) ∧ v6 = .int .i64 (oi at_) ∧ Aside0 (ScanI n p out i at_) ∧ Aside0 (Below w1.heap.size w1 wr)) (fun _ v _ => m - (intOf v).toNat)
  case atStart => exact ⟨0, none, Nat.zero_le _, rfl, rfl, ⟨ScanI.start n p out⟩, ⟨Below.refl _ _⟩⟩
  case round =>
    obtain ⟨i, at_, hi, rfl, rfl, HSc, HBr⟩ := hrel
    have cp : wr.cell? ⟨gp, 0, none⟩ = some (.int .u8 p) := (HP1.out.later HBr.out).cell 0
    have HRr := Aside0.mk (Kd.R_below HR1.out HBr.out)
    have getc : ∀ x, x < m → wr.cell? ⟨go, x, none⟩ = some (.int .i64 (oi (out x))) := fun x hx => by
      obtain ⟨hx1, _⟩ := Kd.R_celln 0 HRr.out (x : Int) (Int.natCast_nonneg x) (Int.ofNat_lt.2 hx)
      rw [Int.toNat_natCast] at hx1
      rw [← rowO_get out hx]; exact hx1
    have HG := Aside0.mk getc
    clear getc
    by_cases him : i < m
    · have ci := HG.out i him
      have i0 : (0 : Int) ≤ (i : Int) := Int.natCast_nonneg i
      have i1 : (i : Int) < (m : Int) := Int.ofNat_lt.2 him
      have HE := Aside0.mk (ends_any g n i _ p wr n1 n11 (by rw [HM.out]; exact him) ((HB.out.later HB1.out).later HBr.out).hd)
      obtain ⟨lb, hlb⟩ : ∃ lb : Bool, decide (endK n i p = n - 1) = lb := ⟨_, rfl⟩
      rw [hlb] at HE
      clear hlb
      go_wp2_with fail
      refine HE.out.mono ?_
      rintro e w3 ⟨rfl, hb3⟩
      have HG3 := Aside0.mk (fun x hx => (hb3.cell (World.block_lt_of_cell? wr _ (HG.out x hx))).trans (HG.out x hx))
      have HB3 := Aside0.mk (below_then HBr.out HBr.out.size hb3)
      clear hb3 HE ci cp HG HRr
      by_cases hbe : beP n p i
      · have hd1 : decide (endK n i p = 0) = true := decide_eq_true hbe
        rw [hd1]
        clear hd1
        cases ho : out i with
        | none =>
          have HS2 := Aside0.mk (HSc.out.skip (fun _ e he => by rw [ho] at he; cases he))
          have e : oi none = -1 := rfl
          rw [e]
          clear ho
          generalize hat : oi at_ = va at *
          have HAT := Aside0.mk hat
          clear hat
          go_wp2_with fail
          go_roundw
          case rel => exact ⟨i + 1, at_, him, by go_num, by rw [HAT.out], HS2, HB3⟩
          case measure => simp [intOf]; omega
        | some d =>
          have e : oi (some d) = (d : Int) := rfl
          rw [e]
          cases at_ with
          | none =>
            have HS2 := Aside0.mk (HSc.out.take hbe ho (fun a e h => by cases h))
            have e : oi none = -1 := rfl
            rw [e]
            clear ho hbe
            go_wp2_with fail
            go_roundw
            case rel => exact ⟨i + 1, some i, him, by go_num, rfl, HS2, HB3⟩
            case measure => simp [intOf]; omega
          | some a =>
            obtain ⟨hai, _, da, hda, _⟩ := HSc.out.yes a rfl
            have ca := HG3.out a (by omega)
            rw [hda] at ca
            have ca' : w3.cell? ⟨go, a, none⟩ = some (.int .i64 (da : Nat)) := ca
            have e : oi (some a) = (a : Int) := rfl
            rw [e]
            have a0 : (0 : Int) ≤ (a : Int) := Int.natCast_nonneg a
            have a1 : (a : Int) < (m : Int) := Int.ofNat_lt.2 (by omega)
            clear ca
            by_cases hlt : d < da
            · have HS2 := Aside0.mk (HSc.out.take hbe ho (fun a' e h h2 => by cases h; rw [hda] at h2; cases h2; exact hlt))
              have t1 : decide (d < da) = true := decide_eq_true hlt
              have t2 : decide ((d : Int) < (da : Int)) = true := decide_eq_true (Int.ofNat_lt.2 hlt)
              clear ho hbe hlt hda
              go_wp2_with fail
              go_roundw
              case rel => exact ⟨i + 1, some i, him, by go_num, rfl, HS2, HB3⟩
              case measure => simp [intOf]; omega
            · have HS2 := Aside0.mk (HSc.out.skip (fun _ e he => by rw [ho] at he; cases he; exact ⟨a, da, rfl, hda, by omega⟩))
              have t1 : decide (d < da) = false := decide_eq_false hlt
              have t2 : decide ((d : Int) < (da : Int)) = false := decide_eq_false (fun h => hlt (Int.ofNat_lt.1 h))
              clear ho hbe hlt hda
              go_wp2_with fail
              go_roundw
              case rel => exact ⟨i + 1, some a, him, by go_num, rfl, HS2, HB3⟩
              case measure => simp [intOf]; omega
      · have hd1 : decide (endK n i p = 0) = false := decide_eq_false hbe
        rw [hd1]
        clear hd1
        have HS2 := Aside0.mk (HSc.out.skip (fun h => absurd h hbe))
        generalize hat : oi at_ = va at *
        have HAT := Aside0.mk hat
        clear hat hbe
        generalize oi (out i) = vo at *
        go_wp2_with fail
        go_roundw
        case rel => exact ⟨i + 1, at_, him, by go_num, by rw [HAT.out], HS2, HB3⟩
        case measure => simp [intOf]; omega
    · obtain rfl : i = m := by omega
      have HBI := Aside0.mk (below_then HB1.out HB1.out.size HBr.out)
      clear cp
      cases at_ with
      | none =>
        have hno : brO n bs p = none := brO_none (fun P hP hb => by
          have h1 := (hP.mem _ (headN_mem hP.ne)).1
          rw [HM.out] at h1
          exact ((HD.out _).2 (HSc.out.no rfl _ h1 hb)) P hP rfl)
        have HNO := Aside0.mk hno
        have e : oi none = -1 := rfl
        rw [e]
        clear hno
        go_wp2_with fail
        go_ret
        refine ⟨HBI.out, ?_⟩
        rw [HNO.out]
        rfl
      | some a0 =>
        obtain ⟨ha0, hbe, d0, hd0, hmin⟩ := HSc.out.yes a0 rfl
        have e : oi (some a0) = (a0 : Int) := rfl
        rw [e]
        have hd1 := HD.out.le hd0
        rw [HM.out] at hd1
        have HFin := Aside0.mk (fun G a (h : FolI n bs p out a0 d0 G a 1) => h.fin HD.out hbe hd0 (fun x hx e he => hmin x (by rw [← HM.out]; exact (HD.out.low he).1) hx e he))
        have HST := Aside0.mk (FolI.start (bs := bs) (p := p) (n := n) hd0)
        have a00 : ¬ (a0 : Int) < 0 := by omega
        clear hmin hbe hd0 HSc
        go_wp2_with fail
        have hbl2 : Below wr.heap.size wr (wr.alloc (.cells #[.int .i64 a0] 3)) := below_alloc (Below.refl _ _) _
        have HB4 := Aside0.mk (below_then HBI.out HBI.out.size hbl2)
        have HB5 := Aside0.mk (below_then HBr.out HBr.out.size hbl2)
        have HL4 : Aside0 (Kd.R (Kd.int .i64) 3 (wr.alloc (.cells #[.int .i64 a0] 3)) w.heap.size (fun k => k ≠ go) (.slice (some ⟨wr.heap.size, 0, none⟩) 1 1) (ints [a0])) := ⟨by
          refine Kd.R_of_own ⟨by simp [encs, ints], .inr ⟨wr.heap.size, 1, #[.int .i64 a0], rfl, HBI.out.size, Blk.new wr 3 _, Nat.le_refl _, by decide, rfl, rfl⟩⟩ (fun k hk => ?_)
          cases hk
          have := HBr.out.size
          have := HGL.out
          show wr.heap.size ≠ go
          omega⟩
        have HF4 := Aside0.mk ((HFB.out.later HBr.out).later hbl2)
        clear HBI HBr hbl2 HG HRr HP1
        generalize wr.alloc (.cells #[.int .i64 a0] 3) = W4 at *
        generalize wr.heap.size = g11 at *
        go_step3
        go_wp2_with fail
        go_loopg [6, 11] (d0 + 1) (fun gq v6 v11 wr => ∃ (G : List Nat) (a r : Nat), v6 = .int .i64 (a : Int) ∧ 1 ≤ r ∧ Aside0 (r < gq) ∧ Aside0 (FolI n bs p out a0 d0 G a r) ∧ Aside0 (Kd.R (Kd.int .i64) 3 wr w.heap.size (fun k => k ≠ go) v11 (ints G)) ∧ Aside0 (Blk wr go 3 fc) ∧ Aside0 (Below w.heap.size w wr))
        case atStart => exact ⟨[a0], a0, d0, rfl, (HD.out.low HST.out.here).2.2, ⟨by omega⟩, HST, HL4, HF4, HB4⟩
        case round =>
          clear HST HL4 HF4 HB4 HB5
          obtain ⟨G, a, r, rfl, hr1, HQ, HFo, HRv, HBg, HBw⟩ := hrel
          have hlow := HD.out.low HFo.out.here
          rw [HM.out] at hlow
          have hai := hlow.1
          have ca : wr.cell? ⟨go, a, none⟩ = some (.int .i64 (r : Nat)) := by
            rw [HBg.out.cell a, HFC.out a hai, HFo.out.here]; rfl
          have a0' : (0 : Int) ≤ (a : Int) := Int.natCast_nonneg a
          have a1' : (a : Int) < (i : Int) := Int.ofNat_lt.2 hai
          clear hlow
          by_cases h1r : r = 1
          · subst h1r
            have hfirst := HFin.out G a HFo.out
            have hbr := brO_some hfirst
            have hG0 : 0 < (ints G).length := by rw [ints_length]; exact List.length_pos_iff.2 hfirst.way.ne
            obtain ⟨gA, cA, e11, _⟩ := Kd.R_form HRv.out hG0
            rw [ints_length] at e11
            subst e11
            have HBR := Aside0.mk hbr
            clear hbr hfirst hG0
            go_wp2_with fail
            go_ret
            refine ⟨HBw.out, ?_⟩
            rw [HBR.out]
            exact ⟨_, cA, rfl, Kd.R_mono HRv.out (fun _ _ => trivial)⟩
          · obtain ⟨s, rfl⟩ : ∃ s, r = s + 2 := ⟨r - 2, by omega⟩
            have hsm := HD.out.le HFo.out.here
            rw [HM.out] at hsm
            obtain ⟨rI, hrI⟩ : ∃ rI : Int, ((s + 2 : Nat) : Int) = rI := ⟨_, rfl⟩
            obtain ⟨sI, hsI⟩ : ∃ sI : Int, ((s + 1 : Nat) : Int) = sI := ⟨_, rfl⟩
            rw [hrI] at ca
            have ws : wrap64 (rI - 1) = sI := by rw [← hrI, ← hsI]; unfold wrap64; omega
            have r1I : (1 : Int) < rI := by rw [← hrI]; omega
            have HSI := Aside0.mk hsI
            have HRA : Aside0 (oi (out a) = rI) := ⟨by rw [HFo.out.here]; exact hrI⟩
            have hGl : G.length ≤ 121 := by have := HFo.out.len; omega
            have HN := Aside0.mk (neighbours_any g n a _ wr n1 n11 (by rw [HM.out]; exact hai) (HS.out.later HBw.out) (HB.out.later HBw.out).hd)
            have HNB : Aside0 (∀ j ∈ nbL n a, j < i ∧ NearN n a j) := ⟨fun j hj => by rw [← HM.out]; exact mem_nbL.1 hj⟩
            have HNM : Aside0 (∀ j, j < i → NearN n a j → j ∈ nbL n a) := ⟨fun j h1 h2 => mem_nbL.2 ⟨by rw [HM.out]; exact h1, h2⟩⟩
            have HNA := Aside0.mk (nbL_asc n a)
            have hnl : (nbL n a).length ≤ i := by rw [← HM.out]; have := List.length_filter_le (fun j => decide (NearN n a j)) (List.range (n * n)); simpa [nbL] using this
            generalize nbL n a = nb at *
            generalize gk = gO at *
            clear hrI hsI hsm
            go_wp2_with fail
            refine HN.out.mono ?_
            rintro e w5 ⟨v5, rfl, hR5, hb5⟩
            obtain ⟨A5, c5, rfl, hl5, hC5⟩ := Kd.R_reads hR5
            have HB5 := Aside0.mk (below_then HBw.out HBw.out.size hb5)
            have HF5 := Aside0.mk (HBg.out.later hb5)
            have HR5 := Aside0.mk (Kd.R_below HRv.out hb5)
            have HC5 := Aside0.mk hC5
            have hil : (ints nb).length = nb.length := ints_length nb
            rw [hil] at HC5 hl5 ⊢
            clear hR5 hb5 hC5 HN ca HRv HBg HBw
            go_wp2_with fail
            have HBI := Aside0.mk (Below.refl w5.heap.size w5)
            generalize u11 = vG at *
            go_loopg [6, 11, 64] (nb.length + 1) (fun gq v6 v11 v64 wr => ∃ q : Nat, q ≤ nb.length ∧ v6 = .int .i64 (a : Int) ∧ v11 = vG ∧ v64 = .int .i64 (q : Int) ∧ Aside0 (nb.length - q < gq) ∧ Aside0 (∀ x ∈ nb.take q, out x ≠ some (s + 1)) ∧ Aside0 (Below w5.heap.size w5 wr))
            case atStart => exact ⟨0, by omega, rfl, rfl, rfl, ⟨by omega⟩, ⟨by simp⟩, HBI⟩
            case round =>
              clear HBI
              obtain ⟨q, hq, rfl, rfl, rfl, HQq, HNo, HBq⟩ := hrel
              by_cases hqn : q < nb.length
              · obtain ⟨ad, rfl, cx⟩ := Kd.at_int HC5.out (q : Int) (by omega) (by omega)
                replace cx := (HBq.out.cell (World.block_lt_of_cell? w5 _ cx)).trans cx
                rw [rd_ints, Int.toNat_natCast] at cx
                have hgd : nb.getD q 0 = nb[q] := by rw [List.getD_eq_getElem?_getD, List.getElem?_eq_getElem hqn]; rfl
                have hjm := HNB.out _ (List.getElem_mem hqn)
                have HTK := Aside0.mk (List.take_succ_eq_append_getElem hqn)
                have HAT := Aside0.mk (fun x (hx : x ∈ nb) (hl : x < nb[q]) => asc_take HNA.out hqn hx hl)
                rw [hgd] at cx
                clear hgd
                generalize nb[q] = j at *
                have hjn := Aside0.mk hjm.2
                have hjm1 := hjm.1
                have j0 : (0 : Int) ≤ (j : Int) := Int.natCast_nonneg j
                have j1 : (j : Int) < (i : Int) := Int.ofNat_lt.2 hjm1
                have HFq := Aside0.mk (HF5.out.later HBq.out)
                have cj0 : wr.cell? ⟨go, j, none⟩ = some (.int .i64 (oi (out j))) := by rw [HFq.out.cell j, HFC.out j hjm1]
                have ca0 : wr.cell? ⟨go, a, none⟩ = some (.int .i64 rI) := by rw [HFq.out.cell a, HFC.out a hai, HRA.out]
                by_cases hj : out j = some (s + 1)
                · have hfs := HFo.out.step HD.out hjn.out hj (fun x h1 h2 h3 h4 => HNo.out x (HAT.out x (HNM.out x (by rw [← HM.out]; exact h3) h2) h1) h4)
                  have HFS := Aside0.mk hfs
                  have cj : wr.cell? ⟨go, j, none⟩ = some (.int .i64 sI) := by rw [cj0, hj, ← HSI.out]; rfl
                  clear cj0 hfs hj HAT
                  go_upto_region 17 with fail
                  go_quiet (fail)
                  have hbn := pw_below_drewN HBq.out nq
                  have HR6 := Aside0.mk (Kd.R_below HR5.out hbn)
                  have HB6 := Aside0.mk (below_then HB5.out HB5.out.size hbn)
                  have HF6 := Aside0.mk (HF5.out.later hbn)
                  clear hbn cj ca0 cx
                  generalize wr.drewN nq = W6 at *
                  have hGil := ints_length G
                  go_wp2_with (first | ((with_reducible refine gate_builtin (b := .append) (xs := #[.tmp 79, .tmp 81]) rfl ?_); at_builtin; refine Kd.R_append (Kd.int .i64) (w0 := w) w.heap.size rfl (.tmp 79) (.tmp 81) 34 3 (.int .i64 0) 8 rfl Tryd.underlying34 info3 rfl (by decide) (by omega) u11 (ints G) (j : Int) [.int .i64 j] (fun k => k ≠ go) (fun _ => False) rfl rfl rfl (fun _ hk => hk.elim) (fun k hk => by have := HF6.out.lt; omega) HR6.out HB6.out HB6.out.size (by omega) ?_; intro v9 w9 ho hb hg hat; have HO9 := Aside0.mk ho; have HB9 := Aside0.mk hb; have HF9 := Aside0.mk (HF6.out.gb hg (fun h => (HR6.out.1 go h.symm) rfl)); clear ho hb hg hat))
                  go_roundg (gO - 1)
                  case measure => have := HQ.out; omega
                  case rel => exact ⟨G ++ [j], j, s + 1, rfl, by omega, ⟨by have := HQ.out; omega⟩, HFS, ⟨by rw [ints_append]; exact HO9.out⟩, HF9, HB9⟩
                · have HN2 : Aside0 (∀ x ∈ nb.take (q + 1), out x ≠ some (s + 1)) := ⟨fun x hx => by
                    rw [HTK.out, List.mem_append, List.mem_singleton] at hx
                    rcases hx with hx | rfl
                    · exact HNo.out x hx
                    · exact hj⟩
                  have hv : (oi (out j) == sI) = false := by
                    rw [beq_eq_false_iff_ne]
                    intro h
                    apply hj
                    cases ho : out j with
                    | none => rw [ho, ← HSI.out] at h; exact absurd h (by show (-1 : Int) ≠ _; omega)
                    | some y => rw [ho, ← HSI.out] at h; have h : (y : Int) = ((s + 1 : Nat) : Int) := h; rw [show y = s + 1 by omega]
                  clear hj HAT
                  generalize oi (out j) = vj at *
                  go_upto_region 17 with fail
                  go_quiet (fail)
                  have HB6 := Aside0.mk (pw_below_drewN HBq.out nq)
                  go_wp2_with fail
                  go_roundg (gk - 1)
                  case measure => have := HQq.out; omega
                  case rel => exact ⟨q + 1, hqn, rfl, rfl, by go_num, ⟨by have := HQq.out; omega⟩, HN2, HB6⟩
              · exfalso
                obtain rfl : q = nb.length := by omega
                have h1 := HNo.out
                rw [List.take_length] at h1
                obtain ⟨x, hx1, hx2⟩ := Dist.next ((HD.out a).1 _ HFo.out.here)
                have hx3 := HD.out.get hx2
                have hx4 := (HD.out.low hx3).1
                rw [HM.out] at hx4
                exact h1 x (HNM.out x hx4 hx1) hx3
end Go.Proofs.YtlmgkmmdaecpdaaDoor.Im

