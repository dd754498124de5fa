/- The law ShaveKernels. -/
import Derived.Test.YtmobefgnkiboaaaRf12
namespace Go.Proofs.Ytmobefgnkiboaaa.Im
open Go.RowKit Go.Proofs.YtmobefgnkiboaaaW.PrintWords Go.Proofs.YtmobefgnkiboaaaW.PrintLast Go.Proofs.YtmobefgnkiboaaaW.PrintMore
set_option linter.unusedVariables false

theorem ne43 (w : World) (a b : Int) : (binOp .neq 43 (.agg #[.int .i64 a, .int .i64 b]) (.agg #[.int .i64 a, .int .i64 b])).run Try.prog w = .ok (.bool false) w := by
  have hi : ∀ (d : Nat) (x : Int), (Op.equalIn (d + 1) 3 (.int .i64 x) (.int .i64 x)).run Try.prog w = .ok true w := fun d x => by
    simp [Op.equalIn]
  have h : (Op.equalIn 10000 43 (.agg #[.int .i64 a, .int .i64 b]) (.agg #[.int .i64 a, .int .i64 b])).run Try.prog w = .ok true w :=
    eqA_of (d := 9999) Try.underlying43 (by kernel_rfl) (eqf_cons (r := true) (s := true) (by kernel_rfl) (by kernel_rfl) (by kernel_rfl) (hi 9998 a) (eqf_last (by kernel_rfl) (by kernel_rfl) (by kernel_rfl) (hi 9998 b)))
  simp only [binOp]
  simp [Op.equal, Op.maxDepth, h]

theorem ld43 (w : World) (ad : Addr) (a b : Int) (h0 : w.cell? ad = some (.int .i64 a)) (h1 : w.cell? (ad.add 1) = some (.int .i64 b)) :
    (Instr.loadAt 43 (.pointer (some ad))).run Try.prog w = .ok (.agg #[.int .i64 a, .int .i64 b]) w := by
  have hl : (loadCells ad [Value.int .i64 a, Value.int .i64 b].length).run Try.prog w = .ok [Value.int .i64 a, Value.int .i64 b].toArray w :=
    run_loadCells_list w ad [.int .i64 a, .int .i64 b] (fun j v hv => by
      match j, hv with
      | 0, hv => simp at hv; subst hv; rw [add_zero]; exact h0
      | 1, hv => simp at hv; subst hv; exact h1)
  have hagg : (isAgg 43).run Try.prog w = .ok true w := by kernel_rfl
  obtain ⟨i0, hi, hzz⟩ := Option.map_eq_some_iff.1 info43
  simp only [Prod.mk.injEq] at hzz
  have hs : i0.size = 2 := hzz.2.1
  have hl2 : (loadCells ad 2).run Try.prog w = .ok #[Value.int .i64 a, Value.int .i64 b] w := hl
  have hv : (loadVar 43 ad).run Try.prog w = .ok (.agg #[.int .i64 a, .int .i64 b]) w := by
    simp [loadVar, Sem.run_bind, hagg, sizeOf, typeInfo, hi, hs, hl2]
  simp only [Instr.loadAt, Instr.sureAddr, Sem.run_bind, Sem.run_pure, Result.andThen_ok, hv]
theorem ex_load43 {a : Act} {o : Oper} {x : Operand} (ho : o.op = .load 43 x) (w : World) (ad : Addr) (p q : Int) (hx : a.eval x = .pointer (some ad)) (h0 : w.cell? ad = some (.int .i64 p)) (h1 : w.cell? (ad.add 1) = some (.int .i64 q)) :
    (execOp a.eval o).run Try.prog w = .ok (.value (.agg #[.int .i64 p, .int .i64 q])) w := by
  have hl := ld43 w ad p q h0 h1
  unfold execOp
  simp [ho, hx, hl, Result.andThen]
theorem ex_ne43 {a : Act} {o : Oper} (ho : o.op = .binOp .neq 43 (.tmp 89) (.tmp 93) 43) (w : World) (p q : Int) (hx : a.eval (.tmp 89) = .agg #[.int .i64 p, .int .i64 q]) (hy : a.eval (.tmp 93) = .agg #[.int .i64 p, .int .i64 q]) :
    (execOp a.eval o).run Try.prog w = .ok (.value (.bool false)) w := by
  have hl := ne43 w p q
  have hg : (eqGuard .neq 43 (.tmp 89) (.tmp 93) (.agg #[.int .i64 p, .int .i64 q]) (.agg #[.int .i64 p, .int .i64 q])).run Try.prog w = .ok () w := by
    first
      | kernel_rfl
      | (simp [eqGuard]; done)
      | (simp [eqGuard, Try.underlying43]; done)
  unfold execOp
  simp [ho, hx, hy, hl, hg, Result.andThen]
theorem ex_idx22 {a : Act} {o : Oper} {x y : Operand} (ho : o.op = .indexAddr 22 x y) (w : World) (b : Addr) (k n c : Nat) (hx : a.eval x = .slice (some b) n c) (hy : a.eval y = .int .i64 (k : Nat)) (hk : k < n) :
    (execOp a.eval o).run Try.prog w = .ok (.value (.pointer (some (b.add (k * 2))))) w := by
  have h0 : (0 : Int) ≤ k := by omega
  have h1 : (k : Int) < n := by omega
  have hl : (Instr.indexAt 22 (.slice (some b) n c) (.int .i64 (k : Nat))).run Try.prog w = .ok (.pointer (some (b.add (k * 2)))) w := by go_simp
  unfold execOp
  simp [ho, hx, hy, hl, Result.andThen]

set_option maxHeartbeats 1600000 in
set_option maxRecDepth 100000 in
theorem law8_any (n : Int) (A : Option Addr) (c : Nat) (l : List S43) (D : Option Addr) (d : Nat) (st : List Int) (w : World) (hr : Kd.C k43 w A l.length l) (hc : l.length ≤ c) (hr2 : Kd.C (Kd.int .i64) w D st.length st) (hd : st.length ≤ d) :
    Calls Try.prog 8 #[.int .i64 n, .slice A l.length c, .slice D st.length d] w fun e w' => e = .returned (.bool true) ∧ Below w.heap.size w w' := by
  have HF := Aside0.mk (few_any A D c d l st w hr hc hr2 hd)
  have HR := Aside0.mk hr
  have HD := Aside0.mk hr2
  clear hr hr2
  cases hf : (decide (l.length ≤ 150) && decide (st.length ≤ 50)) with
  | false =>
    rw [hf] at HF
    clear hf
    go_enter Try.func8, Try.ntmps8
    go_wp2_with fail
    refine HF.out.mono ?_
    rintro e w1 ⟨rfl, hb1⟩
    have HB1 := Aside0.mk hb1
    clear hb1
    go_wp2_with fail
    refine (alive_any _).mono ?_
    rintro e w2 ⟨rfl, hb2⟩
    have HB2 := Aside0.mk (below_then HB1.out HB1.out.size hb2)
    clear hb2
    go_wp2_with fail
    go_ret
    exact ⟨rfl, HB2.out⟩
  | true =>
    rw [hf] at HF
    rw [Bool.and_eq_true, decide_eq_true_eq, decide_eq_true_eq] at hf
    obtain ⟨hf1, hf2⟩ := hf
    have HI := Aside0.mk (fun (A : Option Addr) (c : Nat) (w : World) h1 h2 h3 => Is_any n A c l D d st w h1 h2 h3 hd (by omega))
    have HI' := Aside0.mk (fun (w : World) h1 h3 => refIs_any n A c l D d st w h1 hc h3 hd (by omega))
    unfold IsPost at HI HI'
    have HK := Aside0.mk (fun (A : Option Addr) (c : Nat) (w : World) h1 h2 => progKernel_any n A c l w h1 h2)
    have HK' := Aside0.mk (fun (w : World) h1 => refKernel_any n A c l w h1 hc)
    have HKs := Aside0.mk (fun (A : Option Addr) (c : Nat) (w : World) h1 h2 => Kernels_any n A c l w h1 h2)
    have HKs' := Aside0.mk (fun (w : World) h1 => refKernels_any n A c l w h1 hc)
    unfold KernelsPost at HKs HKs'
    generalize (if ofE n l = 0 then isB n.toNat (townO l) st else false) = b1 at *
    generalize (if ofE n l = 0 then (manyK n.toNat (townO l) (2 ^ n.toNat) : Int) else 0) = many at *
    have hkl : (listF n l (kerO n l)).length < 1000000 := by
      unfold listF kerO
      split
      · cases firstS (fun s => kerB n.toNat (townO l) s (2 ^ n.toNat - 1)) n.toNat with
        | none => simp
        | some t => have := memL_len t; simp; omega
      · simp
    generalize listF n l (kerO n l) = kl at *
    generalize errF n l (kerO n l) = kx at *
    generalize ofE n l = er at *
    have e1 : (b1 != b1) = false := by simp
    have e2 : (er != er) = false := by simp
    have e3 : (kx != kx) = false := by simp
    have e4 : (many == many) = true := by simp
    have e5 : (er == er) = true := by simp
    go_enter Try.func8, Try.ntmps8
    go_wp2_with fail
    refine HF.out.mono ?_
    rintro e w1 ⟨rfl, hb1⟩
    have HB1 := Aside0.mk hb1
    have HR1 := Aside0.mk (Kd.C_below HR.out hb1)
    have HD1 := Aside0.mk (Kd.C_below HD.out hb1)
    clear hb1
    have HB11 := Aside0.mk (Below.refl w1.heap.size w1)
    go_wp2_with (first | ((with_reducible refine gate_dst (N := 22) rfl ?_); refine Kd.R_lit k43 _ 43 ?hg (N := 22) ?hd (xs := ([] : List S43)) (inner := []) (ok := fun _ => True) (okp := fun _ => True) ?hr ?hp (fun _ hk => hk) trivial (Below.refl _ _) (Nat.le_refl _) (by simp) ?_; (case hd => rfl); (case hg => rfl); (case hr => first | (go_simp; done) | (go_simp; rfl)); (case hp => exact Reps.none _ _); intro v2 w2 ho2 hb2 hg2_ hn2_; clear hg2_ hn2_; have HO2 := Aside0.mk ho2; have HB2 := Aside0.mk hb2; have HR2 := Aside0.mk (Kd.C_below HR1.out hb2); have HD2 := Aside0.mk (Kd.C_below HD1.out hb2); clear ho2 hb2) | ((with_reducible refine gate_builtin (b := .append) (xs := #[.tmp 22, .tmp 23]) rfl ?_); at_builtin; refine Kd.R_append_rows k43 (Rr := k43.K w2) (w0 := w1) w1.heap.size rfl (.tmp 22) (.tmp 23) 22 43 (.agg #[.int .i64 0, .int .i64 0]) 16 rfl Try.underlying22 info43 rfl (by decide) (by decide) v2 [] l A l.length c (fun _ => True) (fun _ => False) rfl rfl HO2.out HR2.out (fun x cs h => by rw [k43_open h]; exact k43_mkM _ _ _ x) (fun _ hk => hk.elim) (fun _ _ => trivial) HB2.out HB2.out.size (by simp; omega) ?_; intro v3 w3 ho3 hb3 hg3 hat3; have HO3 := Aside0.mk ho3; have HB3 := Aside0.mk hb3; clear ho3 hb3 hg3 hat3))
    obtain ⟨Ao, co, e0, hco, hCo⟩ := Kd.R_reads HO3.out
    subst e0
    simp only [List.nil_append] at hco hCo ⊢
    have HW3 := Aside0.mk (below_then HB1.out HB1.out.size HB3.out)
    have HR3 := Aside0.mk (Kd.C_below HR1.out HB3.out)
    have HD3 := Aside0.mk (Kd.C_below HD1.out HB3.out)
    have HO := Aside0.mk hCo
    clear hCo HO3 HO2 HB2 HR2 HD2 HB3 HB11
    refine (HI.out Ao co _ HO.out hco HD3.out).mono ?_
    rintro e w4 ⟨rfl, hb4⟩
    have HW4 := Aside0.mk (below_then HW3.out HW3.out.size hb4)
    have HR4 := Aside0.mk (Kd.C_below HR3.out hb4)
    have HD4 := Aside0.mk (Kd.C_below HD3.out hb4)
    have HO4 := Aside0.mk (Kd.C_below HO.out hb4)
    clear hb4 HW3 HR3 HD3 HO
    go_wp2_with fail
    refine (HI'.out _ HR4.out HD4.out).mono ?_
    rintro e w5 ⟨rfl, hb5⟩
    have HW5 := Aside0.mk (below_then HW4.out HW4.out.size hb5)
    have HR5 := Aside0.mk (Kd.C_below HR4.out hb5)
    have HO5 := Aside0.mk (Kd.C_below HO4.out hb5)
    clear hb5 HW4 HR4 HD4 HO4
    go_wp2_with fail
    refine (HK.out Ao co _ HO5.out hco).mono ?_
    rintro e w6 ⟨A6, c6, rfl, hc6, hC6, hb6⟩
    have HW6 := Aside0.mk (below_then HW5.out HW5.out.size hb6)
    have HR6 := Aside0.mk (Kd.C_below HR5.out hb6)
    have HO6 := Aside0.mk (Kd.C_below HO5.out hb6)
    have HC6 := Aside0.mk hC6
    clear hb6 hC6 HW5 HR5 HO5
    go_wp2_with fail
    refine (HK'.out _ HR6.out).mono ?_
    rintro e w7 ⟨A7, c7, rfl, hc7, hC7, hb7⟩
    have HW7 := Aside0.mk (below_then HW6.out HW6.out.size hb7)
    have HR7 := Aside0.mk (Kd.C_below HR6.out hb7)
    have HO7 := Aside0.mk (Kd.C_below HO6.out hb7)
    have hS := same_any (ints kl) A6 A7 c6 c7 w7 (by rw [ints_length]; exact hkl) (by rw [ints_length]; exact Kd.C_below HC6.out hb7) (by rw [ints_length]; exact hc6) (by rw [ints_length]; exact hC7) (by rw [ints_length]; exact hc7)
    rw [ints_length] at hS
    have HS := Aside0.mk hS
    clear hb7 hC7 HW6 HR6 HO6 HC6 hS
    go_wp2_with fail
    refine HS.out.mono ?_
    rintro e w8 ⟨rfl, hb8⟩
    have HW8 := Aside0.mk (below_then HW7.out HW7.out.size hb8)
    have HR8 := Aside0.mk (Kd.C_below HR7.out hb8)
    have HO8 := Aside0.mk (Kd.C_below HO7.out hb8)
    clear hb8 HW7 HR7 HO7
    go_wp2_with fail
    refine (HKs.out Ao co _ HO8.out hco).mono ?_
    rintro e w9 ⟨rfl, hb9⟩
    have HW9 := Aside0.mk (below_then HW8.out HW8.out.size hb9)
    have HR9 := Aside0.mk (Kd.C_below HR8.out hb9)
    have HO9 := Aside0.mk (Kd.C_below HO8.out hb9)
    clear hb9 HW8 HR8 HO8
    go_wp2_with fail
    refine (HKs'.out _ HR9.out).mono ?_
    rintro e W ⟨rfl, hbW⟩
    have HW := Aside0.mk (below_then HW9.out HW9.out.size hbW)
    have HRW := Aside0.mk (Kd.C_below HR9.out hbW)
    have HOW := Aside0.mk (Kd.C_below HO9.out hbW)
    clear hbW HW9 HR9 HO9
    go_wp2_with fail
    go_loopw [16] (fun v wr => ∃ k : Nat, k ≤ l.length ∧ v = .int .i64 (k : Int) ∧ Aside0 (Below W.heap.size W wr)) (fun v _ => l.length - (intOf v).toNat)
    case atStart => exact ⟨0, Nat.zero_le _, rfl, ⟨Below.refl _ _⟩⟩
    case round =>
      obtain ⟨k, hk, rfl, HBr⟩ := hrel
      by_cases hkl2 : k < l.length
      · obtain ⟨a2, rfl, x0, x1⟩ := at_T43 (Kd.C_below HOW.out HBr.out) (k : Int) (by omega) (by omega)
        obtain ⟨a3, rfl, y0, y1⟩ := at_T43 (Kd.C_below HRW.out HBr.out) (k : Int) (by omega) (by omega)
        simp only [Int.toNat_natCast] at x0 x1 y0 y1
        have x1' : wr.cell? ((a2.add (k * 2)).add 1) = some (.int .i64 (rd_T43 l (k : Int)).f1) := x1
        have y1' : wr.cell? ((a3.add (k * 2)).add 1) = some (.int .i64 (rd_T43 l (k : Int)).f1) := y1
        clear x1 y1
        generalize (rd_T43 l (k : Int)).f0 = p0 at *
        generalize (rd_T43 l (k : Int)).f1 = p1 at *
        have hS0 : Aside0 (wr.drew.cell? (a2.add (k * 2)) = some (.int .i64 p0) ∧ wr.drew.cell? ((a2.add (k * 2)).add 1) = some (.int .i64 p1) ∧ wr.drew.cell? (a3.add (k * 2)) = some (.int .i64 p0) ∧ wr.drew.cell? ((a3.add (k * 2)).add 1) = some (.int .i64 p1) ∧ Below W.heap.size W wr.drew) := ⟨x0, x1', y0, y1', below_drew HBr.out⟩
        clear x0 x1' y0 y1'
        go_wp2_with fail
        refine wp_region_held (S := fun wx => wx.cell? (a2.add (k * 2)) = some (.int .i64 p0) ∧ wx.cell? ((a2.add (k * 2)).add 1) = some (.int .i64 p1) ∧ wx.cell? (a3.add (k * 2)) = some (.int .i64 p0) ∧ wx.cell? ((a3.add (k * 2)).add 1) = some (.int .i64 p1) ∧ Below W.heap.size W wx) (by kernel_rfl) ?_
        refine tk (i := 0) 86 (v := .slice (some a2) l.length co) rfl rfl (by kernel_rfl) (by kernel_rfl) (by kernel_rfl) (fun _ _ _ h => h) (by kernel_rfl) (fun wx _ => by kernel_rfl) hS0.out ?_
        simp only [pt_lit, List.set_cons_succ, List.set_cons_zero]
        refine tk (i := 1) 87 (v := .int .i64 (k : Nat)) rfl rfl (by kernel_rfl) (by kernel_rfl) (by kernel_rfl) (fun _ _ _ h => h) (by kernel_rfl) (fun wx _ => by kernel_rfl) hS0.out ?_
        simp only [pt_lit, List.set_cons_succ, List.set_cons_zero]
        refine tk (i := 2) 88 (v := .pointer (some (a2.add (k * 2)))) rfl rfl (by kernel_rfl) (by kernel_rfl) (by kernel_rfl) (fun _ _ _ h => h) (by kernel_rfl) (fun wx _ => ex_idx22 rfl wx a2 k l.length co rfl rfl hkl2) hS0.out ?_
        simp only [pt_lit, List.set_cons_succ, List.set_cons_zero]
        refine tk (i := 3) 89 (v := .agg #[.int .i64 p0, .int .i64 p1]) rfl rfl (by kernel_rfl) (by kernel_rfl) (by kernel_rfl) (fun _ _ _ h => h) (by kernel_rfl) (fun wx h => ex_load43 rfl wx (a2.add (k * 2)) p0 p1 rfl h.1 h.2.1) hS0.out ?_
        simp only [pt_lit, List.set_cons_succ, List.set_cons_zero]
        refine tk (i := 4) 90 (v := .slice (some a3) l.length c) rfl rfl (by kernel_rfl) (by kernel_rfl) (by kernel_rfl) (fun _ _ _ h => h) (by kernel_rfl) (fun wx _ => by kernel_rfl) hS0.out ?_
        simp only [pt_lit, List.set_cons_succ, List.set_cons_zero]
        refine tk (i := 5) 91 (v := .int .i64 (k : Nat)) rfl rfl (by kernel_rfl) (by kernel_rfl) (by kernel_rfl) (fun _ _ _ h => h) (by kernel_rfl) (fun wx _ => by kernel_rfl) hS0.out ?_
        simp only [pt_lit, List.set_cons_succ, List.set_cons_zero]
        refine tk (i := 6) 92 (v := .pointer (some (a3.add (k * 2)))) rfl rfl (by kernel_rfl) (by kernel_rfl) (by kernel_rfl) (fun _ _ _ h => h) (by kernel_rfl) (fun wx _ => ex_idx22 rfl wx a3 k l.length c rfl rfl hkl2) hS0.out ?_
        simp only [pt_lit, List.set_cons_succ, List.set_cons_zero]
        refine tk (i := 7) 93 (v := .agg #[.int .i64 p0, .int .i64 p1]) rfl rfl (by kernel_rfl) (by kernel_rfl) (by kernel_rfl) (fun _ _ _ h => h) (by kernel_rfl) (fun wx h => ex_load43 rfl wx (a3.add (k * 2)) p0 p1 rfl h.2.2.1 h.2.2.2.1) hS0.out ?_
        simp only [pt_lit, List.set_cons_succ, List.set_cons_zero]
        refine tk (i := 8) 94 (v := .bool false) rfl rfl (by kernel_rfl) (by kernel_rfl) (by kernel_rfl) (fun _ _ _ h => h) (by kernel_rfl) (fun wx _ => ex_ne43 rfl wx p0 p1 rfl rfl) hS0.out ?_
        simp only [pt_lit, List.set_cons_succ, List.set_cons_zero]
        refine wpAnyH_done (by kernel_rfl) ?_ _
        have HBd : Aside0 (Below W.heap.size W wr.drew) := ⟨below_drew HBr.out⟩
        go_wp2_with fail
        go_roundw
        case rel => exact ⟨k + 1, by omega, by go_num, HBd⟩
        case measure => simp [intOf]; try omega
      · obtain rfl : k = l.length := by omega
        go_wp2_with fail
        refine (alive_any _).mono ?_
        rintro e wz ⟨rfl, hbz⟩
        have HBz := Aside0.mk (below_then HW.out HW.out.size (below_then HBr.out HBr.out.size hbz))
        clear hbz
        go_wp2_with fail
        go_ret
        exact ⟨rfl, HBz.out⟩
end Go.Proofs.Ytmobefgnkiboaaa.Im
