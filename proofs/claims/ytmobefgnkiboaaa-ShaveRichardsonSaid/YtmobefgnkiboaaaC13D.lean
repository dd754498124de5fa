/- Further parts of the same walk: contracts of the functions that the law reaches, each under the conditions that it states. -/
import Derived.Test.YtmobefgnkiboaaaC13C
namespace Go.Proofs.Ytmobefgnkiboaaa.Im
open Go.RowKit Go.Proofs.YtmobefgnkiboaaaW.PrintWords Go.Proofs.YtmobefgnkiboaaaW.PrintLast Go.Proofs.YtmobefgnkiboaaaW.PrintMore
set_option linter.unusedVariables false
/-- The formula of a person by those to whom an arc leads. -/
def letB (j : Nat) : UInt8 := UInt8.ofNat (97 + j)
def frmL : List Nat → List UInt8
  | [] => [49]
  | [j] => [33, letB j]
  | j :: k :: rest => [40, 33, letB j, 38] ++ frmL (k :: rest) ++ [41]
theorem frmL_len : ∀ l, (frmL l).length ≤ 6 * l.length + 1
  | [] => by simp [frmL]
  | [j] => by simp [frmL]
  | j :: k :: rest => by
    have := frmL_len (k :: rest)
    simp only [frmL, List.length_append, List.length_cons, List.length_nil] at *
    omega
def bytesA (l : List UInt8) : ByteArray := ⟨l.toArray⟩
theorem bytesA_size (l : List UInt8) : (bytesA l).size = l.length := by simp [bytesA, ByteArray.size]
theorem bytesA_append (a b : List UInt8) : bytesA a ++ bytesA b = bytesA (a ++ b) := by
  apply ByteArray.ext
  simp [bytesA, ByteArray.data_append]
theorem joinF (a b : List UInt8) : (Lib.join ([bytesA [40], bytesA a, bytesA [38], bytesA b, bytesA [41]].map (·.data.toList)) (bytesA []).data.toList) = [40] ++ a ++ [38] ++ b ++ [41] := by
  simp [Lib.join, bytesA, List.intercalate, List.intersperse]
theorem frm_step (M : List Nat) (q j : Nat) (h : M.drop q = j :: M.drop (q + 1)) (hq : q + 1 < M.length) : frmL (M.drop q) = [40] ++ [33, letB j] ++ [38] ++ frmL (M.drop (q + 1)) ++ [41] := by
  rw [h]
  have h2 : M.drop (q + 1) = M[q + 1] :: M.drop (q + 1 + 1) := List.drop_eq_getElem_cons hq
  rw [h2]
  simp [frmL]
theorem frm_last (M : List Nat) (q j : Nat) (h : M.drop q = j :: M.drop (q + 1)) (hq : q + 1 = M.length) : frmL (M.drop q) = [33, letB j] := by
  rw [h, hq, List.drop_length]; rfl
def sentB (o : List Nat) (i : Nat) : ByteArray := bytesA (frmL (memL (o.getD i 0)))
def sentAll (n : Nat) (o : List Nat) : Option (List ByteArray) := if (List.range n).all (fun i => decide ((sentB o i).size ≤ 40)) then some ((List.range n).map (sentB o)) else none
def SentR (w : World) (r : Option (List ByteArray)) (e : Ending) (w' : World) : Prop :=
  match r with
  | some l => ∃ v, e = .returned (.tuple #[v, .int .i64 0]) ∧ Kd.R Kd.string 9 w' w.heap.size (fun _ => True) v l ∧ Below w.heap.size w w'
  | none => e = .returned (.tuple #[.slice none 0 0, .int .i64 8]) ∧ Below w.heap.size w w'
def SentPost (n : Int) (l : List S43) (w : World) (e : Ending) (w' : World) : Prop :=
  if ofE n l = 0 then SentR w (if 10 < n then none else sentAll n.toNat (townO l)) e w'
  else e = .returned (.tuple #[.slice none 0 0, .int .i64 (ofE n l)]) ∧ Below w.heap.size w w'
theorem run_rune0 (w : World) : (convert 21 9 (.int .i32 97)).run Try.prog w = .ok (.string (bytesA [letB 0])) w := by kernel_rfl
theorem run_rune1 (w : World) : (convert 21 9 (.int .i32 98)).run Try.prog w = .ok (.string (bytesA [letB 1])) w := by kernel_rfl
theorem run_rune2 (w : World) : (convert 21 9 (.int .i32 99)).run Try.prog w = .ok (.string (bytesA [letB 2])) w := by kernel_rfl
theorem run_rune3 (w : World) : (convert 21 9 (.int .i32 100)).run Try.prog w = .ok (.string (bytesA [letB 3])) w := by kernel_rfl
theorem run_rune4 (w : World) : (convert 21 9 (.int .i32 101)).run Try.prog w = .ok (.string (bytesA [letB 4])) w := by kernel_rfl
theorem run_rune5 (w : World) : (convert 21 9 (.int .i32 102)).run Try.prog w = .ok (.string (bytesA [letB 5])) w := by kernel_rfl
theorem run_rune6 (w : World) : (convert 21 9 (.int .i32 103)).run Try.prog w = .ok (.string (bytesA [letB 6])) w := by kernel_rfl
theorem run_rune7 (w : World) : (convert 21 9 (.int .i32 104)).run Try.prog w = .ok (.string (bytesA [letB 7])) w := by kernel_rfl
theorem run_rune8 (w : World) : (convert 21 9 (.int .i32 105)).run Try.prog w = .ok (.string (bytesA [letB 8])) w := by kernel_rfl
theorem run_rune9 (w : World) : (convert 21 9 (.int .i32 106)).run Try.prog w = .ok (.string (bytesA [letB 9])) w := by kernel_rfl
theorem run_rune10 (w : World) : (convert 21 9 (.int .i32 107)).run Try.prog w = .ok (.string (bytesA [letB 10])) w := by kernel_rfl
theorem run_rune11 (w : World) : (convert 21 9 (.int .i32 108)).run Try.prog w = .ok (.string (bytesA [letB 11])) w := by kernel_rfl
theorem run_rune (j : Nat) (hj : j < 12) (w : World) : (convert 21 9 (.int .i32 (97 + (j : Int)))).run Try.prog w = .ok (.string (bytesA [letB j])) w := by
  rcases j with _|_|_|_|_|_|_|_|_|_|_|_|j
  · exact run_rune0 w
  · exact run_rune1 w
  · exact run_rune2 w
  · exact run_rune3 w
  · exact run_rune4 w
  · exact run_rune5 w
  · exact run_rune6 w
  · exact run_rune7 w
  · exact run_rune8 w
  · exact run_rune9 w
  · exact run_rune10 w
  · exact run_rune11 w
  · omega
theorem l_rune {ops : Array Oper} {Q : Exit → Act → World → Prop} {rest : List Oper} {o : Oper} {a : Act} {w : World} (hgd : o.guard = none) {x : Operand} (ho : o.op = .convert 21 9 x) (j : Nat) (hj : j < 12) (r : Int) (hx : a.eval x = .int .i32 r) (hr : r = 97 + (j : Int))
    (h : wpList Try.prog ops Q rest (a.put o.dst (.string (bytesA [letB j]))) w) : wpList Try.prog ops Q (o :: rest) a w := by
  subst hr
  refine wpList_plain hgd fun K hK => ?_
  have hl := run_rune j hj w
  have e : (execOp a.eval o).run Try.prog w = .ok (.value (.string (bytesA [letB j]))) w := by
    unfold execOp
    simp [ho, hx, hl, Result.andThen]
  unfold Oper.wp
  rw [e]
  exact hK _ _ h
set_option maxHeartbeats 3200000 in
set_option maxRecDepth 100000 in
theorem Sentences_any (n : Int) (A : Option Addr) (c : Nat) (l : List S43) (w : World) (hr : Kd.C k43 w A l.length l) (hc : l.length ≤ c) :
    Calls Try.prog 19 #[.int .i64 n, .slice A l.length c] w (SentPost n l w) := by
  have HO := Aside0.mk (of_A n A c l w hr hc)
  have HZ := Aside0.mk (ofA_size n l)
  have H1 := Aside0.mk (ofA_one n l)
  clear hr hc
  by_cases he : ofE n l = 0
  · have ok := okt_of he
    have hA : ofA n l = tnN n.toNat (townO l) := by rw [ofA, if_pos he]
    have hK : SentPost n l w = SentR w (if 10 < n then none else sentAll n.toNat (townO l)) := by funext e w'; simp [SentPost, he]
    have hnn := (ofE_ok he).1
    rw [hK]
    rw [hA] at HO HZ H1
    rw [he] at HO
    clear he hA hK
    generalize townO l = o at *
    obtain ⟨m, rfl⟩ : ∃ m : Nat, n = m := ⟨n.toNat, by omega⟩
    rw [Int.toNat_natCast] at *
    have HK := Aside0.mk ok
    have n12 := ok.n12
    clear ok hnn
    by_cases h10 : (10 : Int) < m
    · rw [if_pos h10]
      go_enter Try.func19, Try.ntmps19
      go_wp2_with fail
      refine HO.out.mono ?_
      rintro e w1 ⟨rfl, hb⟩
      have HB := Aside0.mk hb
      clear hb HO
      go_wp2_with (refine wpList_store_row rfl 50 _ _ rfl w1.heap.size (tnN m o) rfl rfl 50 (tnN 0 zero12) (heap_alloc_new w1 _) (by rw [info50, HZ.out]) (by rw [HZ.out]; rfl) H1.out ?_; rw [World.setRow_alloc_new])
      go_ret2
      exact ⟨rfl, below_alloc HB.out _⟩
    · rw [if_neg h10]
      have hd10 : decide ((10 : Int) < m) = false := decide_eq_false h10
      obtain ⟨R, hR⟩ : ∃ R, sentAll m o = R := ⟨_, rfl⟩
      rw [hR]
      have HR := Aside0.mk hR
      clear hR
      go_enter Try.func19, Try.ntmps19
      go_wp2_with fail
      refine HO.out.mono ?_
      rintro e w1 ⟨rfl, hb⟩
      have HB := Aside0.mk hb
      clear hb HO
      have HT : Aside0 (TnN (w1.alloc (.cells (tnN m o) 50)) w1.heap.size m o) := ⟨Blk.new _ _ _⟩
      have HB1 := Aside0.mk (below_alloc HB.out (.cells (tnN m o) 50))
      go_wp2_with (refine wpList_store_row rfl 50 _ _ rfl w1.heap.size (tnN m o) rfl rfl 50 (tnN 0 zero12) (heap_alloc_new w1 _) (by rw [info50, HZ.out]) (by rw [HZ.out]; rfl) H1.out ?_; rw [World.setRow_alloc_new])
      generalize w1.alloc (.cells (tnN m o) 50) = W0 at *
      generalize w1.heap.size = g6 at *
      clear HB
      have HW0 := HB1.out.size
      go_loopw [8, 28] (fun v8 v wr => ∃ i : Nat, i ≤ m ∧ v = .int .i64 (i : Int) ∧ Aside0 (Kd.R Kd.string 9 wr w.heap.size (fun _ => True) v8 ((List.range i).map (sentB o))) ∧ Aside0 (∀ j, j < i → (sentB o j).size ≤ 40) ∧ Aside0 (Below w.heap.size w wr) ∧ Aside0 (TnN wr g6 m o)) (fun _ v _ => m - (intOf v).toNat)
      case atStart => exact ⟨0, Nat.zero_le _, rfl, ⟨Kd.R_nil _ _ _ _ _⟩, ⟨fun j hj => absurd hj (by omega)⟩, HB1, HT⟩
      case round =>
        obtain ⟨i, hi, rfl, HR8, HS, HBr, HTr⟩ := hrel
        by_cases him : i < m
        · have co := TnN.cellS HTr.out i (by rw [HK.out.len]; omega)
          rw [Nat.add_comm] at co
          have hnx : o.getD i 0 < 4096 := Nat.lt_of_lt_of_le (HK.out.lt _) (Nat.pow_le_pow_right (by decide) HK.out.n12 : 2 ^ m ≤ 2 ^ 12)
          have hse : sentB o i = bytesA (frmL (memL (o.getD i 0))) := rfl
          generalize o.getD i 0 = nx at *
          have hml := memL_len nx
          have HML := Aside0.mk (fun x (hx : x ∈ memL nx) => memL_lt hx)
          have HM := Aside0.mk (fun w => members_any nx w hnx)
          rw [show memL nx = mem12 nx 0 from rfl] at *
          generalize mem12 nx 0 = M at *
          have hlm : (ints M).length = M.length := ints_length M
          have i0 : (0 : Int) ≤ i := by omega
          have i1 : (i : Int) < 12 := by omega
          have HSE := Aside0.mk hse
          clear hse
          go_wp2_with fail
          refine (HM.out _).mono ?_
          rintro e w3 ⟨v3, rfl, hr3, hb3⟩
          obtain ⟨A3, c3, rfl, hl3, hC3⟩ := Kd.R_reads hr3
          have HB3 := Aside0.mk (below_then HBr.out HBr.out.size hb3)
          have HT3 := Aside0.mk (Blk.later HTr.out hb3)
          have HR3 := Aside0.mk (Kd.R_below HR8.out hb3)
          have HC3 := Aside0.mk hC3
          rw [hlm] at HC3 hl3 ⊢
          clear hr3 hb3 hC3 HM co
          go_wp2_with fail
          go_loopw [11, 12] (fun v11 v wr => ∃ k : Nat, k ≤ M.length ∧ v = .int .i64 ((k : Int) - 1) ∧ v11 = .string (bytesA (frmL (M.drop k))) ∧ Aside0 (Below w3.heap.size w3 wr)) (fun _ v _ => (intOf v + 1).toNat)
          case atStart => exact ⟨M.length, Nat.le_refl _, rfl, by rw [List.drop_length]; rfl, ⟨Below.refl _ _⟩⟩
          case round =>
            obtain ⟨k, hk, rfl, rfl, HBx⟩ := hrel
            by_cases hk0 : 1 ≤ k
            · obtain ⟨q, rfl⟩ : ∃ q, k = q + 1 := ⟨k - 1, by omega⟩
              rw [show (((q + 1 : Nat) : Int) - 1) = (q : Int) by omega]
              obtain ⟨ad, rfl, cx⟩ := Kd.at_int HC3.out (q : Int) (by omega) (by omega)
              replace cx := (HBx.out.cell (World.block_lt_of_cell? w3 _ cx)).trans cx
              rw [rd_ints, Int.toNat_natCast] at cx
              have hje : M.getD q 0 = M[q] := by rw [List.getD_eq_getElem?_getD, List.getElem?_eq_getElem (by omega)]; rfl
              have hj12 : M[q] < 12 := HML.out _ (List.getElem_mem (by omega))
              rw [hje] at cx
              have hdr : M.drop q = M[q] :: M.drop (q + 1) := List.drop_eq_getElem_cons (by omega)
              have HDR := Aside0.mk hdr
              generalize M[q] = j at *
              clear hdr hje
              have hsl : (frmL (M.drop (q + 1))).length ≤ 73 := by have := frmL_len (M.drop (q + 1)); rw [List.length_drop] at this; omega
              by_cases hkm : q + 1 = M.length
              · have neq : ((q : Int) == ((M.length : Int) - 1)) = true := beq_iff_eq.2 (by omega)
                have hf := frm_last M q j HDR.out hkm
                have HF := Aside0.mk hf
                have hown : bytesA [33] ++ bytesA [letB j] = bytesA [33, letB j] := bytesA_append _ _
                have HOW := Aside0.mk hown
                clear hf hown
                generalize frmL (M.drop (q + 1)) = so at *
                go_wp2_with (refine l_rune rfl rfl j hj12 _ rfl rfl ?_)
                go_roundw
                case rel => exact ⟨q, by omega, rfl, by rw [HF.out]; exact congrArg Value.string HOW.out, HBx⟩
                case measure => simp [intOf]; try omega
              · have neq : ((q : Int) == ((M.length : Int) - 1)) = false := beq_eq_false_iff_ne.2 (by omega)
                have hf := frm_step M q j HDR.out (by omega)
                have HF := Aside0.mk hf
                clear hf
                generalize frmL (M.drop (q + 1)) = so at *
                have HOW := Aside0.mk (show bytesA [33] ++ bytesA [letB j] = bytesA [33, letB j] from bytesA_append [33] [letB j])
                have HJN := Aside0.mk (joinF [33, letB j] so)
                go_wp2_with (refine l_rune rfl rfl j hj12 _ rfl rfl ?_)
                have hbw : Below wr.heap.size wr (wr.alloc (.cells #[.string (bytesA [40]), .string (bytesA [33, letB j]), .string (bytesA [38]), .string (bytesA so), .string (bytesA [41])] 9)) := below_alloc (Below.refl _ _) _
                have hJ := Try.strings_Join wr.heap.size 0 5 [bytesA [40], bytesA [33, letB j], bytesA [38], bytesA so, bytesA [41]] (bytesA []) (wr.alloc (.cells #[.string (bytesA [40]), .string (bytesA [33, letB j]), .string (bytesA [38]), .string (bytesA so), .string (bytesA [41])] 9))
                  (fun jj x hx => by
                    rw [Nat.zero_add, (Blk.new wr 9 _).cell jj]
                    match jj, hx with
                    | 0, hx => simp at hx; subst hx; rfl
                    | 1, hx => simp at hx; subst hx; rfl
                    | 2, hx => simp at hx; subst hx; rfl
                    | 3, hx => simp at hx; subst hx; rfl
                    | 4, hx => simp at hx; subst hx; rfl
                    | (n + 5), hx => simp at hx)
                  (by simp) (by simp) (by simp) (by rw [HJN.out]; simp; omega)
                rw [HJN.out, ← HF.out, ← HOW.out] at hJ
                refine hJ.mono ?_
                rintro e w5 ⟨rfl, hb5⟩
                rw [HOW.out] at hb5
                have HB5 := Aside0.mk (below_then HBx.out HBx.out.size (below_then hbw hbw.size hb5))
                clear hbw hJ hb5
                go_wp2_with fail
                go_roundw
                case rel => exact ⟨q, by omega, rfl, rfl, HB5⟩
                case measure => simp [intOf]; try omega
            · obtain rfl : k = 0 := by omega
              rw [List.drop_zero]
              have kz : ¬ (0 : Int) ≤ ((0 : Nat) : Int) - 1 := by omega
              have hfl := frmL_len M
              have hse := HSE.out
              have HS1 : Aside0 ((sentB o i).size = (frmL M).length) := ⟨by rw [hse, bytesA_size]⟩
              generalize frmL M = fM at *
              have hsz : ((bytesA fM).size : Int) = (fM.length : Int) := by rw [bytesA_size]
              have HRx := Aside0.mk (Kd.R_below HR3.out HBx.out)
              have HTx := Aside0.mk (Blk.later HT3.out HBx.out)
              have HBxx := Aside0.mk (below_then HB3.out HB3.out.size HBx.out)
              have HSE2 := Aside0.mk hse
              generalize hsb : bytesA fM = sb at *
              have hs2 : sb.size = fM.length := by rw [← hsb, bytesA_size]
              clear hsb hsz hse
              by_cases h40 : fM.length ≤ 40
              · have h40' : ¬ (40 < (sb.size : Int)) := by omega
                have HS2 : Aside0 (∀ j, j < i + 1 → (sentB o j).size ≤ 40) := ⟨fun j hj => by
                  rcases Nat.lt_or_ge j i with h | h
                  · exact HS.out j h
                  · obtain rfl : j = i := by omega
                    rw [HS1.out]; exact h40⟩
                have HRG : Aside0 ((List.range (i + 1)).map (sentB o) = (List.range i).map (sentB o) ++ [sb]) := ⟨by rw [List.range_succ, List.map_append, ← HSE2.out]; rfl⟩
                have hLl : ((List.range i).map (sentB o)).length = i := by simp
                generalize (List.range i).map (sentB o) = L at *
                have HL := Aside0.mk hLl
                clear hLl hs2
                go_wp2_with (first | ((with_reducible refine gate_builtin (b := .append) (xs := #[.tmp 64, .tmp 66]) rfl ?_); at_builtin; refine Kd.R_append Kd.string (w0 := w) w.heap.size rfl (.tmp 64) (.tmp 66) 31 9 (.string ⟨#[]⟩) 16 rfl Try.underlying31 info9 rfl (by decide) (by omega) u8 L sb [.string sb] (fun _ => True) (fun _ => False) rfl rfl rfl (fun _ hk => hk.elim) (fun _ _ => trivial) HRx.out HBxx.out HBxx.out.size (by have := HL.out; omega) ?_; intro v9 w9 ho hb hg hat; have HO9 := Aside0.mk ho; have HB9 := Aside0.mk hb; have HT9 := Aside0.mk (Blk.gb HTx.out hg (Kd.R_ne HRx.out HTx.out (by decide))); clear ho hb hg hat))
                go_roundw
                case rel => exact ⟨i + 1, by omega, by go_num, ⟨by rw [HRG.out]; exact HO9.out⟩, HS2, HB9, HT9⟩
                case measure => simp [intOf]; try omega
              · have h40' : 40 < (sb.size : Int) := by omega
                have HF := Aside0.mk (show R = none by
                  rw [← HR.out, sentAll, if_neg]
                  rw [List.all_eq_true]
                  intro h
                  have := h i (List.mem_range.2 him)
                  rw [decide_eq_true_eq, HS1.out] at this
                  exact h40 this)
                clear hs2
                go_wp2_with fail
                go_ret2
                rw [HF.out]
                exact ⟨rfl, HBxx.out⟩
        · obtain rfl : i = m := by omega
          have HF := Aside0.mk (show R = some ((List.range i).map (sentB o)) by
            rw [← HR.out, sentAll, if_pos]
            rw [List.all_eq_true]
            exact fun x hx => decide_eq_true (HS.out x (List.mem_range.1 hx)))
          go_wp2_with fail
          go_ret2
          rw [HF.out]
          exact ⟨_, rfl, HR8.out, HBr.out⟩
  · have hK : SentPost n l w = fun e w' => e = .returned (.tuple #[.slice none 0 0, .int .i64 (ofE n l)]) ∧ Below w.heap.size w w' := by funext e w'; simp [SentPost, he]
    rw [hK]
    have hb : (ofE n l != 0) = true := bne_iff_ne.2 he
    have hb' : (ofE n l == 0) = false := beq_eq_false_iff_ne.2 he
    clear hK he
    generalize ofE n l = er at *
    go_enter Try.func19, Try.ntmps19
    go_wp2_with fail
    refine HO.out.mono ?_
    rintro e w1 ⟨rfl, hb⟩
    have HB := Aside0.mk hb
    clear hb HO
    go_wp2_with (refine wpList_store_row rfl 50 _ _ rfl w1.heap.size (ofA n l) rfl rfl 50 (tnN 0 zero12) (heap_alloc_new w1 _) (by rw [info50, HZ.out]) (by rw [HZ.out]; rfl) H1.out ?_)
    go_ret2
    exact ⟨rfl, by rw [World.setRow_alloc_new]; exact below_alloc HB.out _⟩
end Go.Proofs.Ytmobefgnkiboaaa.Im
namespace Go.Proofs.Ytmobefgnkiboaaa.Im
open Go.RowKit Go.Proofs.YtmobefgnkiboaaaW.PrintWords Go.Proofs.YtmobefgnkiboaaaW.PrintLast Go.Proofs.YtmobefgnkiboaaaW.PrintMore
set_option linter.unusedVariables false
theorem run_slice2 (w : World) (A : Option Addr) (n c : Nat) (hn : 2 ≤ n) (hc : n ≤ c) :
    (Instr.sliceAt 22 (.slice A n c) none (some (.int .i64 2)) none).run Try.prog w = .ok (.slice A 2 c) w := by
  have hu : Try.prog.underlying 22 = some (.slice (Try.prog.elem 22)) := by rw [Try.underlying22]; rfl
  rw [run_sliceAt_slice w _ _ _ _ _ hu, run_slice_h w 22 A n c hu .i64 2 (by omega) (by omega)]
  have hs : (sizeOf (Try.prog.elem 22)).run Try.prog w = .ok 2 w := by kernel_rfl
  rw [hs]
  simp only [Result.andThen_ok, sliced]
  cases A with
  | none => simp
  | some b => simp [add_zero]
theorem l_slice2 {ops : Array Oper} {Q : Exit → Act → World → Prop} {rest : List Oper} {o : Oper} {a : Act} {w : World} (hgd : o.guard = none) {x : Operand} (ho : o.op = .slice 22 x none (some (.const (.int .i64 2))) none) (A : Option Addr) (n c : Nat) (hx : a.eval x = .slice A n c) (hn : 2 ≤ n) (hc : n ≤ c)
    (h : wpList Try.prog ops Q rest (a.put o.dst (.slice A 2 c)) w) : wpList Try.prog ops Q (o :: rest) a w := by
  refine wpList_plain hgd fun K hK => ?_
  have hl := run_slice2 w A n c hn hc
  have hy : a.eval (.const (.int .i64 2)) = .int .i64 2 := rfl
  have e : (execOp a.eval o).run Try.prog w = .ok (.value (.slice A 2 c)) w := by
    unfold execOp
    simp [ho, hx, Result.andThen]
    rw [hy, hl]
  unfold Oper.wp
  rw [e]
  exact hK _ _ h
def ring3 : List S43 := [⟨0, 1⟩, ⟨1, 2⟩, ⟨2, 0⟩]
def ring4 : List S43 := [⟨0, 1⟩, ⟨1, 2⟩, ⟨2, 3⟩, ⟨3, 0⟩]
def path3 : List S43 := [⟨0, 1⟩, ⟨1, 2⟩]
theorem ring3_f : pomadelaw02_ring.f 5 3 = some ring3 := by kernel_rfl
theorem ring4_f : pomadelaw02_ring.f 6 4 = some ring4 := by kernel_rfl
theorem k3_E : ofE 3 ring3 = 0 := by decide
theorem k4_E : ofE 4 ring4 = 0 := by decide
theorem p3_E : ofE 3 path3 = 0 := by decide
theorem k3_T : townO ring3 = [2, 4, 1, 0, 0, 0, 0, 0, 0, 0, 0, 0] := by decide
theorem k4_T : townO ring4 = [2, 4, 8, 1, 0, 0, 0, 0, 0, 0, 0, 0] := by decide
theorem p3_T : townO path3 = [2, 4, 0, 0, 0, 0, 0, 0, 0, 0, 0, 0] := by decide
theorem k3_none : firstS (fun s => kerB (3 : Int).toNat (townO ring3) s (2 ^ (3 : Int).toNat - 1)) (3 : Int).toNat = none := by rw [k3_T]; decide
theorem k3_odd : oddS (3 : Int).toNat (townO ring3) = some [0, 1, 2] := by rw [k3_T]; decide
theorem k4_many : manyK (4 : Int).toNat (townO ring4) (2 ^ (4 : Int).toNat) = 2 := by rw [k4_T]; decide
theorem p3_rank : rankF (townO path3) (3 : Int).toNat [] = some [0, 1, 0] := by rw [p3_T]; decide
theorem p3_sent : sentAll (3 : Int).toNat (townO path3) = some [⟨#[33, 98]⟩, ⟨#[33, 99]⟩, ⟨#[49]⟩] := by rw [p3_T]; rfl
theorem ring_any (k : Nat) (n : Int) (r : List S43) (w : World) (h : pomadelaw02_ring.f k n = some r) :
    Calls Try.prog 44 #[.int .i64 n] w fun e w' => ∃ (A : Option Addr) (c : Nat), e = .returned (.slice A r.length c) ∧ r.length ≤ c ∧ Kd.C k43 w' A r.length r ∧ Below w.heap.size w w' :=
  (pomadelaw02_ring.calls k n r w h).mono fun e w' ⟨v, h1, h2, h3⟩ => by
    obtain ⟨A, c, rfl, hl, hC⟩ := Kd.R_reads h2
    exact ⟨A, c, h1, hl, hC, h3⟩
theorem Kernel_ring (A : Option Addr) (c : Nat) (w : World) (hr : Kd.C k43 w A 3 ring3) (hc : 3 ≤ c) :
    Calls Try.prog 23 #[.int .i64 3, .slice A 3 c] w fun e w' => e = .returned (.tuple #[.slice none 0 0, .int .i64 10]) ∧ Below w.heap.size w w' :=
  (Kernel_any 3 A c ring3 w hr hc).mono fun e w' h => by
    unfold KernelPost at h
    rw [if_pos k3_E, k3_none] at h
    exact h
theorem Odd_ring (A : Option Addr) (c : Nat) (w : World) (hr : Kd.C k43 w A 3 ring3) (hc : 3 ≤ c) :
    Calls Try.prog 28 #[.int .i64 3, .slice A 3 c] w fun e w' => ∃ A c, e = .returned (.tuple #[.slice (some A) 3 c, .int .i64 0]) ∧ 3 ≤ c ∧ Kd.C (Kd.int .i64) w' (some A) 3 [0, 1, 2] ∧ Below w.heap.size w w' :=
  (Odd_any 3 A c ring3 w hr hc).mono fun e w' h => by
    unfold OddPost at h
    rw [if_pos k3_E, k3_odd] at h
    exact h
theorem Kernels_ring (A : Option Addr) (c : Nat) (w : World) (hr : Kd.C k43 w A 4 ring4) (hc : 4 ≤ c) :
    Calls Try.prog 24 #[.int .i64 4, .slice A 4 c] w fun e w' => e = .returned (.tuple #[.int .i64 2, .int .i64 0]) ∧ Below w.heap.size w w' :=
  (Kernels_any 4 A c ring4 w hr hc).mono fun e w' h => by
    unfold KernelsPost at h
    rw [if_pos k4_E, k4_many, k4_E] at h
    exact h
theorem Ranks_path (A : Option Addr) (c : Nat) (w : World) (hr : Kd.C k43 w A 2 path3) (hc : 2 ≤ c) :
    Calls Try.prog 16 #[.int .i64 3, .slice A 2 c] w fun e w' => ∃ A c, e = .returned (.tuple #[.slice (some A) 3 c, .int .i64 0]) ∧ 3 ≤ c ∧ Kd.C (Kd.int .i64) w' (some A) 3 [0, 1, 0] ∧ Below w.heap.size w w' :=
  (Ranks_any 3 A c path3 w hr hc).mono fun e w' h => by
    unfold RanksPost at h
    rw [if_pos p3_E, p3_rank] at h
    exact h
theorem Sent_path (A : Option Addr) (c : Nat) (w : World) (hr : Kd.C k43 w A 2 path3) (hc : 2 ≤ c) :
    Calls Try.prog 19 #[.int .i64 3, .slice A 2 c] w fun e w' => ∃ A c, e = .returned (.tuple #[.slice A 3 c, .int .i64 0]) ∧ 3 ≤ c ∧ Kd.C Kd.string w' A 3 [⟨#[33, 98]⟩, ⟨#[33, 99]⟩, ⟨#[49]⟩] ∧ Below w.heap.size w w' :=
  (Sentences_any 3 A c path3 w hr hc).mono fun e w' h => by
    unfold SentPost at h
    rw [if_pos p3_E, if_neg (by omega), p3_sent] at h
    obtain ⟨v, h1, h2, h3⟩ := h
    obtain ⟨A, c, rfl, hl, hC⟩ := Kd.R_reads h2
    exact ⟨A, c, h1, hl, hC, h3⟩
theorem same3 (a b c : Int) (A B : Option Addr) (c0 c1 : Nat) (w : World) (h0 : Kd.C (Kd.int .i64) w A 3 [a, b, c]) (h1 : Kd.C (Kd.int .i64) w B 3 [a, b, c]) (hc0 : 3 ≤ c0) (hc1 : 3 ≤ c1) :
    Calls Try.prog 18 #[.slice A 3 c0, .slice B 3 c1] w fun e w' => e = .returned (.bool true) ∧ Drawn0 w w' :=
  pomadelaw02_same.calls 6 A c0 [a, b, c] B c1 [a, b, c] true w h0 hc0 h1 hc1 (by
    have e1 : wrap64 1 = 1 := by unfold wrap64; omega
    have e2 : wrap64 2 = 2 := by unfold wrap64; omega
    have e3 : wrap64 3 = 3 := by unfold wrap64; omega
    simp [pomadelaw02_same.f, pomadelaw02_same.l0, e1, e2, e3, rd])
set_option maxHeartbeats 3200000 in
set_option maxRecDepth 100000 in
theorem alive_any (w : World) : Calls Try.prog 15 #[] w fun e w' => e = .returned (.bool true) ∧ Below w.heap.size w w' := by
  go_enter Try.func15, Try.ntmps15
  go_wp2_with fail
  refine (ring_any 5 3 ring3 _ ring3_f).mono ?_
  rintro e w1 ⟨A1, c1, rfl, hc1, hC1, hb1⟩
  have HB1 := Aside0.mk hb1
  have HC1 := Aside0.mk hC1
  clear hb1 hC1
  go_wp2_with fail
  refine (Kernel_ring A1 c1 _ HC1.out hc1).mono ?_
  rintro e w2 ⟨rfl, hb2⟩
  have HB2 := Aside0.mk (below_then HB1.out HB1.out.size hb2)
  clear hb2 HB1 HC1
  go_wp2_with fail
  refine (ring_any 5 3 ring3 _ ring3_f).mono ?_
  rintro e w3 ⟨A3, c3, rfl, hc3, hC3, hb3⟩
  have HB3 := Aside0.mk (below_then HB2.out HB2.out.size hb3)
  have HC3 := Aside0.mk hC3
  clear hb3 hC3 HB2
  go_wp2_with fail
  refine (Odd_ring A3 c3 _ HC3.out hc3).mono ?_
  rintro e w4 ⟨A4, c4, rfl, hc4, hC4, hb4⟩
  have HB4 := Aside0.mk (below_then HB3.out HB3.out.size hb4)
  have HC4 := Aside0.mk hC4
  clear hb4 hC4 HB3 HC3
  go_wp2_with fail
  refine (ring_any 6 4 ring4 _ ring4_f).mono ?_
  rintro e w5 ⟨A5, c5, rfl, hc5, hC5, hb5⟩
  have HB5 := Aside0.mk (below_then HB4.out HB4.out.size hb5)
  have HD5 := Aside0.mk (Kd.C_below HC4.out hb5)
  have HC5 := Aside0.mk hC5
  clear hb5 hC5 HB4 HC4
  go_wp2_with fail
  refine (Kernels_ring A5 c5 _ HC5.out hc5).mono ?_
  rintro e w6 ⟨rfl, hb6⟩
  have HB6 := Aside0.mk (below_then HB5.out HB5.out.size hb6)
  have HD6 := Aside0.mk (Kd.C_below HD5.out hb6)
  clear hb6 HB5 HC5 HD5
  go_wp2_with fail
  refine (ring_any 5 3 ring3 _ ring3_f).mono ?_
  rintro e w7 ⟨A7, c7, rfl, hc7, hC7, hb7⟩
  have HB7 := Aside0.mk (below_then HB6.out HB6.out.size hb7)
  have HD7 := Aside0.mk (Kd.C_below HD6.out hb7)
  have hC7t := Kd.C_take (m := 2) hC7 (by decide)
  have HC7 := Aside0.mk hC7t
  have hc7' : 3 ≤ c7 := hc7
  clear hb7 hC7 HB6 HD6 hC7t
  go_wp2_with (refine l_slice2 rfl rfl A7 3 c7 rfl (by omega) hc7' ?_)
  refine (Ranks_path A7 c7 _ HC7.out (by omega)).mono ?_
  rintro e w8 ⟨A8, c8, rfl, hc8, hC8, hb8⟩
  have HB8 := Aside0.mk (below_then HB7.out HB7.out.size hb8)
  have HD8 := Aside0.mk (Kd.C_below HD7.out hb8)
  have HC8 := Aside0.mk hC8
  clear hb8 hC8 HB7 HD7 HC7
  go_wp2_with fail
  refine (ring_any 5 3 ring3 _ ring3_f).mono ?_
  rintro e w9 ⟨A9, c9, rfl, hc9, hC9, hb9⟩
  have HB9 := Aside0.mk (below_then HB8.out HB8.out.size hb9)
  have HD9 := Aside0.mk (Kd.C_below HD8.out hb9)
  have HE9 := Aside0.mk (Kd.C_below HC8.out hb9)
  have hC9t := Kd.C_take (m := 2) hC9 (by decide)
  have HC9 := Aside0.mk hC9t
  have hc9' : 3 ≤ c9 := hc9
  clear hb9 hC9 HB8 HD8 HC8 hC9t
  go_wp2_with (refine l_slice2 rfl rfl A9 3 c9 rfl (by omega) hc9' ?_)
  refine (Sent_path A9 c9 _ HC9.out (by omega)).mono ?_
  rintro e wa ⟨Aa, ca, rfl, hca, hCa, hba⟩
  have HBa := Aside0.mk (below_then HB9.out HB9.out.size hba)
  have HDa := Aside0.mk (Kd.C_below HD9.out hba)
  have HEa := Aside0.mk (Kd.C_below HE9.out hba)
  have HFa := Aside0.mk hCa
  clear hba hCa HB9 HD9 HE9 HC9
  go_wp2_with fail
  have hbb : Below wa.heap.size wa (wa.alloc (.cells #[.int .i64 0, .int .i64 1, .int .i64 2] 3)) := below_alloc (Below.refl _ _) _
  have hCb := C_nums (l := [0, 1, 2]) (Blk.new wa 3 (numsA [0, 1, 2])) (by decide)
  refine (same3 0 1 2 (some A4) (some ⟨wa.heap.size, 0, none⟩) c4 3 _ (Kd.C_below HDa.out hbb) hCb hc4 (by omega)).mono ?_
  rintro e wb ⟨rfl, hdb⟩
  have hbw := below_then hbb hbb.size hdb.below
  have HBb := Aside0.mk (below_then HBa.out HBa.out.size hbw)
  have HEb := Aside0.mk (Kd.C_below HEa.out hbw)
  have HFb := Aside0.mk (Kd.C_below HFa.out hbw)
  clear hbb hCb hdb hbw HBa HDa HEa HFa
  go_wp2_with fail
  have hbc : Below wb.heap.size wb (wb.alloc (.cells #[.int .i64 0, .int .i64 1, .int .i64 0] 3)) := below_alloc (Below.refl _ _) _
  have hCc := C_nums (l := [0, 1, 0]) (Blk.new wb 3 (numsA [0, 1, 0])) (by decide)
  refine (same3 0 1 0 (some A8) (some ⟨wb.heap.size, 0, none⟩) c8 3 _ (Kd.C_below HEb.out hbc) hCc hc8 (by omega)).mono ?_
  rintro e wc ⟨rfl, hdc⟩
  have hbw := below_then hbc hbc.size hdc.below
  have HBc := Aside0.mk (below_then HBb.out HBb.out.size hbw)
  have hFc := Kd.C_below HFb.out hbw
  clear hbc hCc hdc hbw HBb HEb HFb
  obtain ⟨ad, rfl, s0⟩ := Kd.at_string hFc 0 (by omega) (by omega)
  obtain ⟨_, e1, s1⟩ := Kd.at_string hFc 1 (by omega) (by omega)
  cases e1
  obtain ⟨_, e1, s2⟩ := Kd.at_string hFc 2 (by omega) (by omega)
  cases e1
  have s0' : wc.cell? ad = some (.string ⟨#[33, 98]⟩) := s0
  have s1' : wc.cell? ⟨ad.block, ad.off + 1, none⟩ = some (.string ⟨#[33, 99]⟩) := s1
  have s2' : wc.cell? ⟨ad.block, ad.off + 2, none⟩ = some (.string ⟨#[49]⟩) := s2
  clear s0 s1 s2 hFc
  go_wp2_with fail
  go_ret
  exact ⟨rfl, HBc.out⟩
end Go.Proofs.Ytmobefgnkiboaaa.Im

namespace Go.Proofs.Ytmobefgnkiboaaa.Im
open Go.RowKit Go.Proofs.YtmobefgnkiboaaaW.PrintWords Go.Proofs.YtmobefgnkiboaaaW.PrintLast Go.Proofs.YtmobefgnkiboaaaW.PrintMore
set_option linter.unusedVariables false
theorem few_any (A B : Option Addr) (c d : Nat) (l : List S43) (xs : List Int) (w : World) (hA : Kd.C k43 w A l.length l) (hc : l.length ≤ c) (hB : Kd.C (Kd.int .i64) w B xs.length xs) (hd : xs.length ≤ d) :
    Calls Try.prog 14 #[.slice A l.length c, .slice B xs.length d] w fun e w' => e = .returned (.bool (decide (l.length ≤ 150) && decide (xs.length ≤ 50))) ∧ Below w.heap.size w w' := by
  have h : pomadelaw02_few.f l xs = some (decide (l.length ≤ 150) && decide (xs.length ≤ 50)) := by
    unfold pomadelaw02_few.f
    by_cases h : l.length ≤ 150
    · rw [if_pos (by omega), decide_eq_true h, Bool.true_and]
      congr 1
      rw [decide_eq_decide]; omega
    · rw [if_neg (by omega), decide_eq_false h]; rfl
  exact (pomadelaw02_few.calls A c l B d xs _ w hA hc hB hd h).mono fun e w' h => ⟨h.1, h.2.below⟩
end Go.Proofs.Ytmobefgnkiboaaa.Im

namespace Go.Proofs.Ytmobefgnkiboaaa.Im
open Go.RowKit Go.Proofs.YtmobefgnkiboaaaW.PrintWords Go.Proofs.YtmobefgnkiboaaaW.PrintLast Go.Proofs.YtmobefgnkiboaaaW.PrintMore
set_option linter.unusedVariables false
theorem valid_any (n : Int) (A : Option Addr) (c : Nat) (l : List S43) (w : World) (hr : Kd.C k43 w A l.length l) (hc : l.length ≤ c) :
    Calls Try.prog 21 #[.int .i64 n, .slice A l.length c] w fun e w' => e = .returned (.bool (ofE n l == 0)) ∧ Below w.heap.size w w' := by
  have hg : Gives (fun k => pomadelaw02_valid.f k n l) (ofE n l == 0) := (Town_g n l).map fun k hk => by
    simp only [pomadelaw02_valid.f]
    rw [hk, Option.bind_some]
    by_cases he : ofE n l = 0
    · rw [if_pos he, he]
    · rw [if_neg he]
  obtain ⟨k0, hk0⟩ := hg
  exact pomadelaw02_valid.calls k0 n A c l _ w hr hc (hk0 k0 (Nat.le_refl _))
theorem less_any (xs ys : List Int) (A : Option Addr) (c : Nat) (D : Option Addr) (d : Nat) (w : World) (hx : xs.length < 1000000) (hy : ys.length < 1000000) (h1 : Kd.C (Kd.int .i64) w A xs.length xs) (h2 : xs.length ≤ c) (h3 : Kd.C (Kd.int .i64) w D ys.length ys) (h4 : ys.length ≤ d) :
    Calls Try.prog 36 #[.slice A xs.length c, .slice D ys.length d] w fun e w' => e = .returned (.bool (lessB xs ys)) ∧ Below w.heap.size w w' := by
  obtain ⟨k0, hk0⟩ := Less_g xs ys hx hy
  refine (pomaderef01_Less.calls k0 A c xs D d ys _ w h1 h2 h3 h4 (hk0 k0 (Nat.le_refl _))).mono fun e w' h => ?_
  first
    | exact h
    | exact ⟨h.1, h.2.below⟩
end Go.Proofs.Ytmobefgnkiboaaa.Im

namespace Go.Proofs.Ytmobefgnkiboaaa.Im
open Go.RowKit Go.Proofs.YtmobefgnkiboaaaW.PrintWords Go.Proofs.YtmobefgnkiboaaaW.PrintLast Go.Proofs.YtmobefgnkiboaaaW.PrintMore
set_option linter.unusedVariables false
def inK (n : Nat) (o : List Nat) (p x : Nat) : Bool := x &&& p == x && kerB n o x p
def kernL (n : Nat) (o : List Nat) (p : Nat) : List Nat := (List.range' 0 (p + 1)).filter (inK n o p)
theorem kernL_full (n : Nat) (o : List Nat) : kernL n o (2 ^ n - 1) = (List.range (2 ^ n)).filter fun s => kerB n o s (2 ^ n - 1) := by
  have h2 := Nat.two_pow_pos n
  unfold kernL
  rw [show 2 ^ n - 1 + 1 = 2 ^ n by omega, ← List.range_eq_range']
  apply List.filter_congr
  intro x hx
  have hx' := List.mem_range.1 hx
  unfold inK
  rw [Nat.and_two_pow_sub_one_eq_mod, Nat.mod_eq_of_lt hx', beq_self_eq_true, Bool.true_and]
theorem manyK_eq (n : Nat) (o : List Nat) : manyK n o (2 ^ n) = (kernL n o (2 ^ n - 1)).length := by rw [kernL_full]; rfl
theorem memL_pos {s : Nat} (hs : s < 4096) (h0 : 0 < s) : 0 < (memL s).length := by
  rcases Nat.eq_zero_or_pos (memL s).length with h | h
  · have := memL_nil hs (List.eq_nil_of_length_eq_zero h); omega
  · exact h
end Go.Proofs.Ytmobefgnkiboaaa.Im

namespace Go.Proofs.Ytmobefgnkiboaaa.Im
open Go.RowKit Go.Proofs.YtmobefgnkiboaaaW.PrintWords Go.Proofs.YtmobefgnkiboaaaW.PrintLast Go.Proofs.YtmobefgnkiboaaaW.PrintMore
set_option linter.unusedVariables false
/-- A list and an error; with an error the list is empty. -/
def OutO (r : List Nat) (er : Int) (w : World) (e : Ending) (w' : World) : Prop :=
  ∃ A c, e = .returned (.tuple #[.slice A r.length c, .int .i64 er]) ∧ r.length ≤ c ∧ Kd.C (Kd.int .i64) w' A r.length (ints r) ∧ Below w.heap.size w w'
def listF (n : Int) (l : List S43) (x : Option (List Nat)) : List Nat := if ofE n l = 0 then x.getD [] else []
def errF (n : Int) (l : List S43) (x : Option (List Nat)) : Int := if ofE n l = 0 then (if x.isSome then 0 else 10) else ofE n l
theorem outO_nil (er : Int) (w w' : World) (h : Below w.heap.size w w') : OutO [] er w (.returned (.tuple #[.slice none 0 0, .int .i64 er])) w' :=
  ⟨none, 0, rfl, Nat.le_refl _, C_nil w', h⟩
theorem outO_of {n : Int} {l : List S43} {w : World} {x : Option (List Nat)} {e : Ending} {w' : World}
    (h : if ofE n l = 0 then FoundE w x e w' else e = .returned (.tuple #[.slice none 0 0, .int .i64 (ofE n l)]) ∧ Below w.heap.size w w') : OutO (listF n l x) (errF n l x) w e w' := by
  unfold listF errF
  by_cases he : ofE n l = 0
  · rw [if_pos he] at h
    rw [if_pos he, if_pos he]
    cases x with
    | none => obtain ⟨rfl, h2⟩ := h; exact outO_nil _ _ _ h2
    | some r =>
      obtain ⟨A, c, rfl, h2, h3, h4⟩ := h
      rw [ints_length] at h2 h3 ⊢
      exact ⟨some A, c, rfl, h2, h3, h4⟩
  · rw [if_neg he] at h
    rw [if_neg he, if_neg he]
    obtain ⟨rfl, h2⟩ := h; exact outO_nil _ _ _ h2
theorem outO_first {n : Int} {l : List S43} {w : World} {x : Option Nat} {e : Ending} {w' : World}
    (h : if ofE n l = 0 then FirstR w x e w' else e = .returned (.tuple #[.slice none 0 0, .int .i64 (ofE n l)]) ∧ Below w.heap.size w w') : OutO (listF n l (x.map memL)) (errF n l (x.map memL)) w e w' := by
  unfold listF errF
  by_cases he : ofE n l = 0
  · rw [if_pos he] at h
    rw [if_pos he, if_pos he]
    cases x with
    | none => obtain ⟨rfl, h2⟩ := h; exact outO_nil _ _ _ h2
    | some r =>
      obtain ⟨v, rfl, h2, h3⟩ := h
      obtain ⟨A, c, rfl, h4, h5⟩ := Kd.R_reads h2
      rw [ints_length] at h4 h5 ⊢
      exact ⟨A, c, rfl, h4, h5, h3⟩
  · rw [if_neg he] at h
    rw [if_neg he, if_neg he]
    obtain ⟨rfl, h2⟩ := h; exact outO_nil _ _ _ h2
theorem kerB_zero {n : Nat} (o : List Nat) (h : 1 ≤ n) : kerB n o 0 (2 ^ n - 1) = false := by
  cases hb : kerB n o 0 (2 ^ n - 1) with
  | false => rfl
  | true =>
    have := ((kerB_iff n o 0).1 hb 0 (by omega)).2 (Nat.zero_testBit 0)
    simp at this
def kerO (n : Int) (l : List S43) : Option (List Nat) := (firstS (fun s => kerB n.toNat (townO l) s (2 ^ n.toNat - 1)) n.toNat).map memL
theorem progKernel_any (n : Int) (A : Option Addr) (c : Nat) (l : List S43) (w : World) (hr : Kd.C k43 w A l.length l) (hc : l.length ≤ c) :
    Calls Try.prog 23 #[.int .i64 n, .slice A l.length c] w (OutO (listF n l (kerO n l)) (errF n l (kerO n l)) w) :=
  (Kernel_any n A c l w hr hc).mono fun e w' h => outO_first h
theorem kerO_eq {n : Int} {l : List S43} (he : ofE n l = 0) : kerO n l = (bestS (kernL n.toNat (townO l) (2 ^ n.toNat - 1))).map memL := by
  have ok := okt_of he
  unfold kerO
  rw [first_eq _ _ ok.n12 (kerB_zero _ ok.n1), kernL_full]
end Go.Proofs.Ytmobefgnkiboaaa.Im

namespace Go.Proofs.Ytmobefgnkiboaaa.Im
open Go.RowKit Go.Proofs.YtmobefgnkiboaaaW.PrintWords Go.Proofs.YtmobefgnkiboaaaW.PrintLast Go.Proofs.YtmobefgnkiboaaaW.PrintMore
set_option linter.unusedVariables false
/-- The sets of the first k people turned. -/
def turnF (f : Nat → Nat) (o : List Nat) (k : Nat) : List Nat := (List.range 12).map fun i => if i < k then f i else o.getD i 0
theorem turnF_len (f : Nat → Nat) (o : List Nat) (k : Nat) : (turnF f o k).length = 12 := by simp [turnF]
theorem turnF_get (f : Nat → Nat) (o : List Nat) (k i : Nat) (hi : i < 12) : (turnF f o k).getD i 0 = if i < k then f i else o.getD i 0 := by
  unfold turnF
  rw [List.getD_eq_getElem?_getD, List.getElem?_map, List.getElem?_range hi]
  rfl
theorem ext12 {a b : List Nat} (ha : a.length = 12) (hb : b.length = 12) (h : ∀ i, i < 12 → a.getD i 0 = b.getD i 0) : a = b := by
  apply List.ext_getElem (by omega)
  intro i h1 h2
  have := h i (by omega)
  simpa [List.getD_eq_getElem?_getD, h1, h2] using this
theorem turnF_zero (f : Nat → Nat) (o : List Nat) (h : o.length = 12) : turnF f o 0 = o := ext12 (turnF_len _ _ _) h fun i hi => by rw [turnF_get f o 0 i hi, if_neg (by omega)]
theorem turnF_set (f : Nat → Nat) (o : List Nat) (k : Nat) (hk : k < 12) : (turnF f o k).set k (f k) = turnF f o (k + 1) := by
  refine ext12 (by rw [List.length_set, turnF_len]) (turnF_len _ _ _) fun i hi => ?_
  rw [turnF_get f o (k + 1) i hi, List.getD_eq_getElem?_getD, List.getElem?_set]
  by_cases e : k = i
  · rw [if_pos e, if_pos (by rw [turnF_len]; omega), if_pos (by omega), e]; rfl
  · rw [if_neg e, ← List.getD_eq_getElem?_getD, turnF_get f o k i hi]
    by_cases h : i < k
    · rw [if_pos h, if_pos (by omega)]
    · rw [if_neg h, if_neg (by omega)]
theorem getD12 {o : List Nat} (h : o.length = 12) {i : Nat} (hi : ¬ i < 12) : o.getD i 0 = 0 := by
  rw [List.getD_eq_getElem?_getD, List.getElem?_eq_none (by omega)]; rfl
theorem turnF_okt {n : Nat} {o : List Nat} (ok : Okt n o) {f : Nat → Nat} (hf : ∀ i, f i < 2 ^ n) (k : Nat) : Okt n (turnF f o k) :=
  ⟨ok.n1, ok.n12, turnF_len _ _ _, fun i => by
    by_cases hi : i < 12
    · rw [turnF_get f o k i hi]
      split
      · exact hf i
      · exact ok.lt i
    · rw [getD12 (turnF_len _ _ _) hi]; exact Nat.two_pow_pos n⟩
def witN (o : List Nat) (s i : Nat) : Nat := if s.testBit i then o.getD i 0 &&& s else 0
def witO (n : Nat) (o : List Nat) (s : Nat) : List Nat := turnF (witN o s) o n
theorem witO_okt {n : Nat} {o : List Nat} (ok : Okt n o) (s : Nat) : Okt n (witO n o s) := turnF_okt ok (fun i => by
  unfold witN; split
  · exact Nat.lt_of_le_of_lt Nat.and_le_left (ok.lt i)
  · exact Nat.two_pow_pos n) n
theorem TnN.set_ {w : World} {g n : Nat} {o : List Nat} (h : TnN w g n o) (i v : Nat) : TnN (w.setCell ⟨g, 1 + i, none⟩ (.int .i64 (v : Nat))) g n (o.set i v) := by
  have h1 := Blk.set_ h (1 + i) (.int .i64 (v : Nat))
  have e : (tnA n (ints o)).setIfInBounds (1 + i) (.int .i64 (v : Nat)) = tnA n (ints (o.set i v)) := by
    rw [Nat.add_comm 1 i, tnA_set]
    simp only [ints, List.map_set]
  rw [e] at h1
  exact h1
theorem resultsT {f : Func} {c : Nat} (hf : f.results = #[.cell c 50]) (tmps : Array Value) (w : World) (g : Nat) (cs : Array Value) (hp : tmps.getD c undef = .pointer (some ⟨g, 0, none⟩)) (hb : Blk w g 50 cs) (hs : cs.size = 13) :
    (results f tmps).run Try.prog w = .ok (.agg cs) w := by
  have hp' : tmps[c]?.getD undef = .pointer (some ⟨g, 0, none⟩) := by simpa using hp
  simp [results, hf, hp', asAddr, run_loadVar_row w g 50 50 cs (0, 0) _ hb Try.underlying50 rfl (by rw [info50, hs])]
set_option maxHeartbeats 3200000 in
set_option maxRecDepth 100000 in
theorem within_any (n : Nat) (o : List Nat) (s : Nat) (w : World) (ok : Okt n o) (hs : s < 4096) :
    Calls Try.prog 75 #[.agg (tnN n o), .int .i64 (s : Nat)] w fun e w' => e = .returned (.agg (tnN n (witO n o s))) ∧ Below w.heap.size w w' := by
  have n12 := ok.n12
  have HK := Aside0.mk ok
  have H1 := Aside0.mk (tn_one n (witO n o s))
  have HZ := Aside0.mk (tn_size n (witO n o s) (turnF_len _ _ _))
  have HT0 : Aside0 (TnN ((w.alloc (.cells (tnN n o) 50)).alloc (.cells (tnN 0 zero12) 50)) w.heap.size n (turnF (witN o s) o 0)) := ⟨by rw [turnF_zero _ _ ok.len]; exact (Blk.new _ _ _).alloc _⟩
  have HR0 : Aside0 (Blk ((w.alloc (.cells (tnN n o) 50)).alloc (.cells (tnN 0 zero12) 50)) (w.heap.size + 1) 50 (tnN 0 zero12)) := ⟨Blk.new' (by simp)⟩
  have HB0 : Aside0 (Below w.heap.size w ((w.alloc (.cells (tnN n o) 50)).alloc (.cells (tnN 0 zero12) 50))) := ⟨below_alloc (below_alloc (Below.refl _ _) _) _⟩
  have c00 : (tnN n o)[0]? = some (.int .i64 (n : Nat)) := rfl
  have p12 : (2 : Nat) ^ n ≤ 4096 := (Nat.pow_le_pow_right (by decide) n12 : 2 ^ n ≤ 2 ^ 12)
  clear ok
  go_enter Try.func75, Try.ntmps75
  go_wp2_with fail
  rw [tn0_zero] at HT0 HR0 HB0
  generalize (w.alloc (.cells (tnN n o) 50)).alloc (.cells #[.int .i64 0, .int .i64 0, .int .i64 0, .int .i64 0, .int .i64 0, .int .i64 0, .int .i64 0, .int .i64 0, .int .i64 0, .int .i64 0, .int .i64 0, .int .i64 0, .int .i64 0] 50) = W0 at *
  generalize hg : w.heap.size = g at *
  have HBg : Aside0 (Below w.heap.size w W0) := ⟨by rw [hg]; exact HB0.out⟩
  have HG := Aside0.mk hg
  clear hg c00 HB0
  go_loopw [8] (fun v8 wr => ∃ k : Nat, k ≤ n ∧ v8 = .int .i64 (k : Int) ∧ Aside0 (TnN wr g n (turnF (witN o s) o k)) ∧ Aside0 (Blk wr (g + 1) 50 (tnN 0 zero12)) ∧ Aside0 (Below w.heap.size w wr)) (fun v _ => n - (intOf v).toNat)
  case atStart => exact ⟨0, Nat.zero_le _, rfl, HT0, HR0, HBg⟩
  case round =>
    clear HT0 HR0 HBg
    obtain ⟨k, hk, rfl, HT, HR, HB⟩ := hrel
    by_cases hkn : k < n
    · have hlen := turnF_len (witN o s) o k
      have ck := TnN.cellS HT.out k (by rw [hlen]; omega)
      have fk := Blk.frozen HT.out (k + 1)
      rw [turnF_get _ _ _ _ (by omega), if_neg (Nat.lt_irrefl _)] at ck
      have hok := HK.out.lt12 k
      have hset := turnF_set (witN o s) o k (by omega)
      have ew : witN o s k = if s.testBit k then o.getD k 0 &&& s else 0 := rfl
      rw [Nat.add_comm k 1] at ck fk
      have k0 : (0 : Int) ≤ k := by omega
      have k1 : (k : Int) < 12 := by omega
      have HS := Aside0.mk hset
      have et := b_bit0 s k (by omega)
      have ea := b_and (o.getD k 0) s (by omega) (by omega)
      have HEa := Aside0.mk ea
      have hbg : ∀ (W1 W2 : World) (x : Value), W1.grownBy W2 (some g) → Below w.heap.size w W1 → Below w.heap.size w W2 := fun W1 W2 x h1 h2 => gb_below_new h2 h1 (fun g' h => by cases h; rw [HG.out]; omega)
      have HBG := Aside0.mk hbg
      clear ea hset hbg
      generalize o.getD k 0 = ok at *
      cases hb : s.testBit k with
      | true =>
        rw [hb] at et ew
        rw [if_pos rfl] at ew
        have HEw := Aside0.mk ew
        clear ew hb
        go_wp2_with fail
        go_roundw
        case rel =>
          refine ⟨k + 1, by omega, by go_num, ⟨?_⟩, ⟨Blk.far HR.out (by simp) _⟩, ⟨HBG.out _ _ (.int .i64 0) (gb_set _ _ _) HB.out⟩⟩
          have h := TnN.set_ HT.out k (ok &&& s)
          rw [← HEw.out, HS.out] at h
          rw [HEa.out, ← HEw.out]
          exact h
        case measure => simp [intOf]; omega
      | false =>
        rw [hb] at et ew
        rw [if_neg (by simp)] at ew
        have HEw := Aside0.mk ew
        clear ew hb
        go_wp2_with fail
        go_roundw
        case rel =>
          refine ⟨k + 1, by omega, by go_num, ⟨?_⟩, ⟨Blk.far (Blk.far HR.out (by simp) _) (by simp) _⟩, ⟨HBG.out _ _ (.int .i64 0) (gb_set _ _ _) (HBG.out _ _ (.int .i64 0) (gb_set _ _ _) HB.out)⟩⟩
          have h := TnN.set_ (TnN.set_ HT.out k (ok &&& s)) k 0
          rw [List.set_set, ← HEw.out, HS.out] at h
          rw [HEa.out]
          have e : ((witN o s k : Nat) : Int) = 0 := by rw [HEw.out]; rfl
          rw [e] at h
          exact h
        case measure => simp [intOf]; omega
    · obtain rfl : n = k := by omega
      have HLd : Aside0 (TnN wr g n (witO n o s)) := HT
      go_wp2_with (first | (refine wpList_store_row rfl 50 _ _ rfl (g + 1) (tnN n (witO n o s)) rfl rfl 50 (tnN 0 zero12) HR.out (by rw [info50, HZ.out]) (by rw [HZ.out]; rfl) H1.out ?_) | (refine wpList_load_row rfl 50 _ rfl g rfl 50 (tnN n (witO n o s)) (0, 0) _ HLd.out Try.underlying50 rfl (by rw [info50, HZ.out]) ?_))
      exact bodyPost_ret (resultsT (f := Try.f75) (c := 4) rfl _ _ (g + 1) _ rfl (Blk.row HR.out _) HZ.out) rfl ⟨rfl, gb_below_new HB.out (gb_row _ _ _) (fun g' h => by cases h; rw [HG.out]; omega)⟩
end Go.Proofs.Ytmobefgnkiboaaa.Im

namespace Go.Proofs.Ytmobefgnkiboaaa.Im
open Go.RowKit Go.Proofs.YtmobefgnkiboaaaW.PrintWords Go.Proofs.YtmobefgnkiboaaaW.PrintLast Go.Proofs.YtmobefgnkiboaaaW.PrintMore
set_option linter.unusedVariables false
/-- A bound method that is a test of sets. -/
structure HasQ (w : World) (f : FuncId) (x : Value) (has : Nat → Bool) : Prop where
  enter : ∀ (args : Array Value) (w : World), (callFunc f args).run Try.prog w = .ok (.enter f args) w
  calls : ∀ s, s < 4096 → ∀ w', Below w.heap.size w w' → Calls Try.prog f #[x, .int .i64 (s : Nat)] w' (fun e w'' => e = .returned (.bool (has s)) ∧ Below w'.heap.size w' w'')
theorem HasQ.later {w w1 : World} {f : FuncId} {x : Value} {p : Nat → Bool} (h : HasQ w f x p) (hb : Below w.heap.size w w1) : HasQ w1 f x p :=
  ⟨h.enter, fun i hi w' hw => h.calls i hi w' (below_then hb hb.size hw)⟩
/-- What 'first' holds while it tries sets with a bound method. -/
structure FirstQ (gout gh base : Nat) (w0 : World) (f : FuncId) (x : Value) (has : Nat → Bool) (st : List Nat) (w : World) : Prop where
  out : ∃ v, Blk w gout 25 #[v] ∧ Kd.R (Kd.int .i64) 3 w base (fun _ => True) v (ints st)
  bh : Blk w gh 62 #[.func (.func f) #[x] #[]]
  ne : gh ≠ gout
  hc : HasQ w0 f x has
  bel : Below base w0 w
  size : base ≤ w.heap.size
  b1 : base ≤ gout
  b0 : base = w0.heap.size
theorem FirstQ.keep {gout gh base : Nat} {w0 : World} {f : FuncId} {x : Value} {has : Nat → Bool} {st : List Nat} {w w' : World} (h : FirstQ gout gh base w0 f x has st w) (hg : w.grownBy w' none) : FirstQ gout gh base w0 f x has st w' := by
  obtain ⟨⟨v, hb, hr⟩, h2, h3, h4, h5, h6, h7, h8⟩ := h
  exact ⟨⟨v, hb.gb hg (by simp), Kd.R_below hr (below_gb hg)⟩, h2.gb hg (by simp), h3, h4, h5.grown hg h6 (fun k hk => by cases hk), Nat.le_trans h6 hg.size, h7, h8⟩
end Go.Proofs.Ytmobefgnkiboaaa.Im

namespace Go.Proofs.Ytmobefgnkiboaaa.Im
open Go.RowKit Go.Proofs.YtmobefgnkiboaaaW.PrintWords Go.Proofs.YtmobefgnkiboaaaW.PrintLast Go.Proofs.YtmobefgnkiboaaaW.PrintMore
set_option linter.unusedVariables false
theorem addArc_bit (o : List Nat) (p : S43) (a b : Nat) (ho : o.length = 12) (h : p.f0.toNat < 12) : ((addArc o p).getD a 0).testBit b = ((o.getD a 0).testBit b || (p.f0.toNat == a && p.f1.toNat == b)) := by
  unfold addArc
  rw [List.getD_eq_getElem?_getD, List.getElem?_set]
  by_cases e : p.f0.toNat = a
  · rw [if_pos e, if_pos (by rw [ho]; exact h), Option.getD_some, Nat.testBit_or, Nat.testBit_two_pow, e, beq_self_eq_true, Bool.true_and]
    rfl
  · rw [if_neg e, beq_eq_false_iff_ne.2 e, Bool.false_and, Bool.or_false, ← List.getD_eq_getElem?_getD]
theorem foldl_town (a b : Nat) : ∀ (l : List S43) (o : List Nat), o.length = 12 → (∀ p ∈ l, p.f0.toNat < 12) → ((l.foldl addArc o).getD a 0).testBit b = ((o.getD a 0).testBit b || l.any fun p => p.f0.toNat == a && p.f1.toNat == b)
  | [], o, _, _ => by simp
  | p :: l, o, ho, h => by
    rw [List.foldl_cons, foldl_town a b l (addArc o p) (by simp [addArc, ho]) (fun q hq => h q (List.mem_cons_of_mem _ hq)), addArc_bit o p a b ho (h p List.mem_cons_self), List.any_cons, Bool.or_assoc]
theorem zero12_get (i : Nat) : zero12.getD i 0 = 0 := by
  rcases Nat.lt_or_ge i 12 with h | h
  · have : i = 0 ∨ i = 1 ∨ i = 2 ∨ i = 3 ∨ i = 4 ∨ i = 5 ∨ i = 6 ∨ i = 7 ∨ i = 8 ∨ i = 9 ∨ i = 10 ∨ i = 11 := by omega
    rcases this with rfl | rfl | rfl | rfl | rfl | rfl | rfl | rfl | rfl | rfl | rfl | rfl <;> rfl
  · simp [zero12, List.getD_eq_getElem?_getD, h]
theorem town_bit {n : Int} {l : List S43} (he : ofE n l = 0) (a b : Nat) : ((townO l).getD a 0).testBit b = true ↔ ∃ p ∈ l, p.f0 = a ∧ p.f1 = b := by
  obtain ⟨h1, h2, _, h4⟩ := ofE_ok he
  rw [List.all_eq_true] at h4
  have hp : ∀ p ∈ l, 0 ≤ p.f0 ∧ p.f0 < n ∧ 0 ≤ p.f1 ∧ p.f1 < n := fun p hp => by
    have := h4 p hp
    simp only [arcOk, Bool.and_eq_true, decide_eq_true_eq] at this
    omega
  unfold townO
  rw [foldl_town a b l zero12 rfl (fun p h => by have := hp p h; omega), zero12_get, Nat.zero_testBit, Bool.false_or, List.any_eq_true]
  constructor
  · rintro ⟨p, h, hq⟩
    rw [Bool.and_eq_true, beq_iff_eq, beq_iff_eq] at hq
    have := hp p h
    exact ⟨p, h, by omega, by omega⟩
  · rintro ⟨p, h, h5, h6⟩
    refine ⟨p, h, ?_⟩
    rw [h5, h6]; simp
theorem land_ne (x s : Nat) : x &&& s ≠ 0 ↔ ∃ i, x.testBit i = true ∧ s.testBit i = true := by
  rw [Ne, land_zero]
  constructor
  · intro h
    apply Classical.byContradiction
    intro h'
    exact h fun i hi => h' ⟨i, hi⟩
  · rintro ⟨i, hi⟩ h
    exact h i hi
theorem setOf_memL {n t : Nat} (hn : n ≤ 12) (h1 : t < 2 ^ n) : setOf (ints (memL t)) = t := by
  have h12 : (2 : Nat) ^ n ≤ 2 ^ 12 := Nat.pow_le_pow_right (by decide) hn
  apply Nat.eq_of_testBit_eq
  intro i
  rw [setOf_bit, Bool.eq_iff_iff, decide_eq_true_eq, memL_mem]
  constructor
  · exact fun h => h.2
  · intro h
    refine ⟨?_, h⟩
    rcases Nat.lt_or_ge i 12 with h3 | h3
    · exact h3
    · rw [Nat.testBit_lt_two_pow (Nat.lt_of_lt_of_le h1 (Nat.le_trans h12 (Nat.pow_le_pow_right (by decide) h3)))] at h; cases h
end Go.Proofs.Ytmobefgnkiboaaa.Im

namespace Go.Proofs.Ytmobefgnkiboaaa.Im
open Go.RowKit Go.Proofs.YtmobefgnkiboaaaW.PrintWords Go.Proofs.YtmobefgnkiboaaaW.PrintLast Go.Proofs.YtmobefgnkiboaaaW.PrintMore
set_option linter.unusedVariables false
/-- Is there a walk with so many arcs? -/
def wkB (o : List Nat) : Nat → Nat → Nat → Bool
  | 0, a, b => a == b
  | L + 1, a, b => (memL (o.getD a 0)).any fun c => wkB o L c b
theorem wk_succ (o : List Nat) (L a b : Nat) : wkB o (L + 1) a b = true ↔ ∃ c, c ∈ memL (o.getD a 0) ∧ wkB o L c b = true := by
  show ((memL (o.getD a 0)).any fun c => wkB o L c b) = true ↔ _
  rw [List.any_eq_true]
theorem wk_append (o : List Nat) : ∀ (L M a b c : Nat), wkB o L a b = true → wkB o M b c = true → wkB o (L + M) a c = true
  | 0, M, a, b, c, h1, h2 => by
    have e : a = b := by simpa [wkB] using h1
    rw [Nat.zero_add, e]; exact h2
  | L + 1, M, a, b, c, h1, h2 => by
    obtain ⟨x, hx, h⟩ := (wk_succ _ _ _ _).1 h1
    rw [show L + 1 + M = (L + M) + 1 by omega]
    exact (wk_succ _ _ _ _).2 ⟨x, hx, wk_append o L M x b c h h2⟩
theorem wk_one (o : List Nat) {a c : Nat} (h : c ∈ memL (o.getD a 0)) : wkB o 1 a c = true := (wk_succ _ _ _ _).2 ⟨c, h, by simp [wkB]⟩
/-- The number of arcs of a shortest walk, odd (1) or even (0); 99: none. -/
def dF (o : List Nat) (a b p : Nat) : Nat := ((List.range 99).find? fun L => L % 2 == p && wkB o L a b).getD 99
theorem dF_spec (o : List Nat) (a b p : Nat) : dF o a b p ≤ 99 ∧ (dF o a b p < 99 → dF o a b p % 2 = p ∧ wkB o (dF o a b p) a b = true) ∧ ∀ m, m % 2 = p → wkB o m a b = true → dF o a b p ≤ m := by
  unfold dF
  cases h : (List.range 99).find? fun L => L % 2 == p && wkB o L a b with
  | none =>
    refine ⟨Nat.le_refl _, fun h => absurd h (Nat.lt_irrefl _), fun m h1 h2 => ?_⟩
    show 99 ≤ m
    rcases Nat.lt_or_ge m 99 with h3 | h3
    · rw [List.find?_eq_none] at h
      exact absurd (by simp [h1, h2]) (h m (List.mem_range.2 h3))
    · exact h3
  | some x =>
    have hx := List.mem_range.1 (List.mem_of_find?_eq_some h)
    have hp := List.find?_some h
    simp only [Bool.and_eq_true, beq_iff_eq] at hp
    refine ⟨Nat.le_of_lt hx, fun _ => hp, fun m h1 h2 => ?_⟩
    show x ≤ m
    rcases Nat.lt_or_ge m x with h3 | h3
    · obtain ⟨_, l1, l2, e, hq⟩ := List.find?_eq_some_iff_append.1 h
      have hs : (l1 ++ x :: l2).Pairwise (· < ·) := by rw [← e]; exact List.pairwise_lt_range
      rw [List.pairwise_append] at hs
      have hm : m ∈ l1 ++ x :: l2 := by rw [← e]; exact List.mem_range.2 (by omega)
      rw [List.mem_append] at hm
      rcases hm with hm | hm
      · have := hq m hm
        simp [h1, h2] at this
      · rw [List.mem_cons] at hm
        rcases hm with hm | hm
        · omega
        · have := (List.pairwise_cons.1 hs.2.1).1 m hm
          omega
    · exact h3
theorem dF_wk {o : List Nat} {a b p m : Nat} (hm : m < 99) (h : dF o a b p = m) : m % 2 = p ∧ wkB o m a b = true := by
  have := (dF_spec o a b p).2.1 (by omega)
  rwa [h] at this
theorem dF_no {o : List Nat} {a b p m : Nat} (hm : m % 2 = p) (h : m < dF o a b p) : wkB o m a b = false := by
  cases hb : wkB o m a b with
  | false => rfl
  | true => have := (dF_spec o a b p).2.2 m hm hb; omega
/-- The rest of the first closed walk. -/
def grF (o : List Nat) (z : Nat) : Nat → Nat → List Nat
  | 0, _ => []
  | d + 1, last => match (memL (o.getD last 0)).find? fun c => wkB o (d + 1) c z with
    | some c => c :: grF o z d c
    | none => []
theorem findSome_if {α : Type} (P : Nat → Bool) (g : Nat → α) : ∀ (l : List Nat), (l.findSome? fun j => if P j then some (g j) else none) = (l.find? P).map g
  | [] => rfl
  | a :: l => by
    rw [List.findSome?_cons, List.find?_cons]
    cases h : P a
    · simp [findSome_if P g l]
    · simp
theorem findSome_congr {α : Type} {f g : Nat → Option α} : ∀ {l : List Nat}, (∀ x ∈ l, f x = g x) → l.findSome? f = l.findSome? g
  | [], _ => rfl
  | a :: l, h => by
    rw [List.findSome?_cons, List.findSome?_cons, h a List.mem_cons_self, findSome_congr fun x hx => h x (List.mem_cons_of_mem _ hx)]
theorem any_find (P : Nat → Bool) (l : List Nat) : l.any P = (l.find? P).isSome := by
  induction l with
  | nil => rfl
  | cons a l ih => rw [List.any_cons, List.find?_cons, ih]; cases P a <;> simp
/-- A way from a person to a last one. -/
structure Wy (o : List Nat) (n z : Nat) (way : List Nat) (last : Nat) : Prop where
  ne : way ≠ []
  hd : way.headD 0 = z
  la : way.getLastD 0 = last
  lt : ∀ x ∈ way, x < n
  nd : way.Nodup
  wk : ∀ x ∈ way, ∃ p q, p + q + 1 = way.length ∧ wkB o p z x = true ∧ wkB o q x last = true
theorem Wy.one (o : List Nat) {n z : Nat} (h : z < n) : Wy o n z [z] z :=
  ⟨by simp, rfl, rfl, fun x hx => by rw [List.mem_singleton.1 hx]; exact h, by simp, fun x hx => by rw [List.mem_singleton.1 hx]; exact ⟨0, 0, rfl, by simp [wkB], by simp [wkB]⟩⟩
theorem Wy.snoc {o : List Nat} {n z last j : Nat} {way : List Nat} (h : Wy o n z way last) (hj : j ∈ memL (o.getD last 0)) (hn : j < n) (hni : j ∉ way) : Wy o n z (way ++ [j]) j := by
  refine ⟨by simp, ?_, by simp, fun x hx => ?_, ?_, fun x hx => ?_⟩
  · have := h.hd
    cases way with
    | nil => exact absurd rfl h.ne
    | cons a l => exact this
  · rw [List.mem_append, List.mem_singleton] at hx
    rcases hx with hx | rfl
    · exact h.lt x hx
    · exact hn
  · rw [List.nodup_append]
    exact ⟨h.nd, by simp, fun a ha b hb => by rw [List.mem_singleton.1 hb]; exact fun e => hni (e ▸ ha)⟩
  · rw [List.mem_append, List.mem_singleton] at hx
    rw [List.length_append]
    have hl : last ∈ way := by
      have hla := h.la
      rw [List.getLastD_eq_getLast?] at hla
      cases hg : way.getLast? with
      | none => rw [List.getLast?_eq_none_iff] at hg; exact absurd hg h.ne
      | some y => rw [hg] at hla; have : y = last := hla; rw [← this]; exact List.mem_of_getLast? hg
    rcases hx with hx | rfl
    · obtain ⟨p, q, h1, h2, h3⟩ := h.wk x hx
      exact ⟨p, q + 1, by simp; omega, h2, wk_append o q 1 x last j h3 (wk_one o hj)⟩
    · obtain ⟨p, q, h1, h2, h3⟩ := h.wk last hl
      refine ⟨p + q + 1, 0, by simp; omega, ?_, by simp [wkB]⟩
      exact wk_append o (p + q) 1 z last x (wk_append o p q z last last h2 h3) (wk_one o hj)
section
variable {o : List Nat} {n : Nat} (ok : Okt n o)
include ok
theorem arc_lt {a c : Nat} (h : c ∈ memL (o.getD a 0)) : c < n := by
  have hb := ((memL_mem _ _).1 h).2
  rcases Nat.lt_or_ge c n with h1 | h1
  · exact h1
  · rw [Nat.testBit_lt_two_pow (Nat.lt_of_lt_of_le (ok.lt a) (Nat.pow_le_pow_right (by decide) h1))] at hb; cases hb
/-- With a closed walk that is too short for two odd ones nobody is met twice. -/
theorem wy_new {z long d last j : Nat} {way : List Nat} (hodd : long % 2 = 1) (hmin : ∀ m v, v < n → m % 2 = 1 → m < long → wkB o m v v = false) (h : Wy o n z way last) (hl : way.length + (d + 1) = long)
    (hj : j ∈ memL (o.getD last 0)) (hw : wkB o (d + 1) j z = true) : j ∉ way := by
  intro hin
  obtain ⟨p, q, h1, h2, h3⟩ := h.wk j hin
  have hjn := arc_lt ok hj
  have hz : z < n := by
    have := h.lt
    have hd := h.hd
    cases way with
    | nil => exact absurd rfl h.ne
    | cons a l => rw [← hd]; exact this a List.mem_cons_self
  have c1 : wkB o (q + 1) j j = true := wk_append o q 1 j last j h3 (wk_one o hj)
  have c2 : wkB o (p + (d + 1)) z z = true := wk_append o p (d + 1) z j z h2 hw
  rcases Nat.mod_two_eq_zero_or_one (q + 1) with h4 | h4
  · rw [hmin (p + (d + 1)) z hz (by omega) (by omega)] at c2; cases c2
  · rw [hmin (q + 1) j hjn h4 (by omega)] at c1; cases c1
theorem oddF_gr {z long : Nat} (hodd : long % 2 = 1) (hmin : ∀ m v, v < n → m % 2 = 1 → m < long → wkB o m v v = false) (hz : z < 12) : ∀ (d : Nat) (way : List Nat) (last : Nat), way.length + d = long → Wy o n z way last →
    oddF o d way = if wkB o (d + 1) last z then some (way ++ grF o z d last) else none
  | 0, way, last, hl, h => by
    have e : wkB o 1 last z = (o.getD last 0).testBit z := by
      rw [Bool.eq_iff_iff, wk_succ]
      constructor
      · rintro ⟨c, hc, h1⟩
        have e : c = z := by simpa [wkB] using h1
        rw [← e]; exact ((memL_mem _ _).1 hc).2
      · exact fun hb => ⟨z, (memL_mem _ _).2 ⟨hz, hb⟩, by simp [wkB]⟩
    have : oddF o 0 way = if (o.getD (way.getLastD 0) 0).testBit (way.headD 0) then some way else none := rfl
    rw [this, h.la, h.hd, e]
    simp [grF]
  | d + 1, way, last, hl, h => by
    have hF : oddF o (d + 1) way = (memL (o.getD (way.getLastD 0) 0)).findSome? fun j => if way.contains j then none else oddF o d (way ++ [j]) := rfl
    rw [hF, h.la]
    have hc : ∀ j ∈ memL (o.getD last 0), (if way.contains j then none else oddF o d (way ++ [j])) = if wkB o (d + 1) j z then some (way ++ (j :: grF o z d j)) else none := fun j hj => by
      by_cases hin : j ∈ way
      · rw [if_pos (List.contains_iff_mem.2 hin)]
        cases hw : wkB o (d + 1) j z with
        | false => rfl
        | true => exact absurd hin (wy_new ok hodd hmin h hl hj hw)
      · rw [if_neg (by rw [List.contains_iff_mem]; exact hin), oddF_gr hodd hmin hz d (way ++ [j]) j (by simp; omega) (h.snoc hj (arc_lt ok hj) hin), List.append_assoc]
        rfl
    rw [findSome_congr hc, findSome_if (fun j => wkB o (d + 1) j z) (fun j => way ++ (j :: grF o z d j))]
    have e : wkB o (d + 1 + 1) last z = ((memL (o.getD last 0)).find? fun j => wkB o (d + 1) j z).isSome := any_find _ _
    rw [e]
    have eg : grF o z (d + 1) last = match (memL (o.getD last 0)).find? fun c => wkB o (d + 1) c z with
      | some c => c :: grF o z d c
      | none => [] := rfl
    rw [eg]
    cases (memL (o.getD last 0)).find? fun j => wkB o (d + 1) j z with
    | none => rfl
    | some c => rfl
theorem gr_nodup {z long : Nat} (hodd : long % 2 = 1) (hmin : ∀ m v, v < n → m % 2 = 1 → m < long → wkB o m v v = false) : ∀ (d : Nat) (way : List Nat) (last : Nat), way.length + d = long → Wy o n z way last → wkB o (d + 1) last z = true →
    (way ++ grF o z d last).Nodup ∧ (∀ x ∈ way ++ grF o z d last, x < n) ∧ (way ++ grF o z d last).length = long
  | 0, way, last, hl, h, hw => by
    simp only [grF, List.append_nil]
    exact ⟨h.nd, h.lt, by omega⟩
  | d + 1, way, last, hl, h, hw => by
    have e : wkB o (d + 1 + 1) last z = ((memL (o.getD last 0)).find? fun j => wkB o (d + 1) j z).isSome := any_find _ _
    rw [e] at hw
    have eg : grF o z (d + 1) last = match (memL (o.getD last 0)).find? fun c => wkB o (d + 1) c z with
      | some c => c :: grF o z d c
      | none => [] := rfl
    rw [eg]
    cases hf : (memL (o.getD last 0)).find? fun j => wkB o (d + 1) j z with
    | none => rw [hf] at hw; cases hw
    | some c =>
      have hc := List.mem_of_find?_eq_some hf
      have hp : wkB o (d + 1) c z = true := List.find?_some (p := fun j => wkB o (d + 1) j z) hf
      have := gr_nodup hodd hmin d (way ++ [c]) c (by simp; omega) (h.snoc hc (arc_lt ok hc) (wy_new ok hodd hmin h hl hc hp)) hp
      rw [List.append_assoc] at this
      exact this
end
theorem nodup_le : ∀ (n : Nat) (l : List Nat), l.Nodup → (∀ x ∈ l, x < n) → l.length ≤ n
  | 0, l, _, h => by
    cases l with
    | nil => exact Nat.le_refl _
    | cons a l => exact absurd (h a List.mem_cons_self) (Nat.not_lt_zero _)
  | n + 1, l, hd, h => by
    by_cases hn : n ∈ l
    · have := nodup_le n (l.erase n) (hd.erase n) (fun x hx => by
        rw [List.Nodup.mem_erase_iff hd] at hx
        have := h x hx.2; omega)
      rw [List.length_erase_of_mem hn] at this
      omega
    · have := nodup_le n l hd (fun x hx => by
        have := h x hx
        have : x ≠ n := fun e => hn (e ▸ hx)
        omega)
      omega
/-- The best start, of the first people. -/
def bestF (o : List Nat) (k : Nat) : Nat × Nat := (List.range k).foldl (fun s a => if dF o a a 1 < s.1 then (dF o a a 1, a) else s) (99, 0)
theorem bestF_succ (o : List Nat) (k : Nat) : bestF o (k + 1) = if dF o k k 1 < (bestF o k).1 then (dF o k k 1, k) else bestF o k := by
  unfold bestF
  rw [List.range_succ, List.foldl_append]
  rfl
theorem bestF_spec (o : List Nat) : ∀ k, (bestF o k).1 ≤ 99 ∧ (∀ a, a < k → (bestF o k).1 ≤ dF o a a 1) ∧ ((bestF o k).1 = 99 ∧ (bestF o k).2 = 0 ∨ (bestF o k).2 < k ∧ dF o (bestF o k).2 (bestF o k).2 1 = (bestF o k).1 ∧ (bestF o k).1 < 99 ∧ ∀ a, a < (bestF o k).2 → (bestF o k).1 < dF o a a 1)
  | 0 => ⟨Nat.le_refl _, fun a h => absurd h (Nat.not_lt_zero _), .inl ⟨rfl, rfl⟩⟩
  | k + 1 => by
    obtain ⟨h1, h2, h3⟩ := bestF_spec o k
    rw [bestF_succ]
    by_cases h : dF o k k 1 < (bestF o k).1
    · rw [if_pos h]
      refine ⟨by show dF o k k 1 ≤ 99; omega, fun a ha => ?_, .inr ⟨by show k < k + 1; omega, rfl, by show dF o k k 1 < 99; omega, fun a ha => ?_⟩⟩
      · show dF o k k 1 ≤ dF o a a 1
        rcases Nat.lt_or_ge a k with h4 | h4
        · have := h2 a h4; omega
        · obtain rfl : a = k := by omega
          exact Nat.le_refl _
      · show dF o k k 1 < dF o a a 1
        have := h2 a ha; omega
    · rw [if_neg h]
      refine ⟨h1, fun a ha => ?_, ?_⟩
      · rcases Nat.lt_or_ge a k with h4 | h4
        · exact h2 a h4
        · obtain rfl : a = k := by omega
          omega
      · rcases h3 with h3 | ⟨h3, h4⟩
        · exact .inl h3
        · exact .inr ⟨by omega, h4⟩
/-- What the specification returns. -/
def oddR (n : Nat) (o : List Nat) : Option (List Nat) := if (bestF o n).1 = 99 then none else some ((bestF o n).2 :: grF o (bestF o n).2 ((bestF o n).1 - 1) (bestF o n).2)
theorem findSome_none {α : Type} {f : Nat → Option α} {l : List Nat} (h : ∀ x ∈ l, f x = none) : l.findSome? f = none := by
  rw [List.findSome?_eq_none_iff]; exact h
theorem findSome_range {α : Type} {f : Nat → Option α} {n k : Nat} {r : α} (hk : k < n) (h0 : ∀ j, j < k → f j = none) (h1 : f k = some r) : (List.range n).findSome? f = some r := by
  rw [List.findSome?_eq_some_iff]
  refine ⟨List.range k, k, (List.range n).drop (k + 1), ?_, h1, fun x hx => h0 x (List.mem_range.1 hx)⟩
  have e1 : List.range k = (List.range n).take k := by rw [List.take_range, Nat.min_eq_left (Nat.le_of_lt hk)]
  rw [e1]
  have e2 : k :: (List.range n).drop (k + 1) = (List.range n).drop k := by
    have e3 := List.drop_eq_getElem_cons (l := List.range n) (i := k) (by rw [List.length_range]; exact hk)
    rw [List.getElem_range] at e3
    exact e3.symm
  rw [e2, List.take_append_drop]
theorem oddS_eq {n : Nat} {o : List Nat} (ok : Okt n o) : oddS n o = oddR n o := by
  have n12 := ok.n12
  obtain ⟨h1, h2, h3⟩ := bestF_spec o n
  unfold oddR oddS
  have none_at : ∀ q i, 2 * q + 1 < (bestF o n).1 → i < n → oddF o (2 * q) [i] = none := fun q i hq hi => by
    have hmin : ∀ m v, v < n → m % 2 = 1 → m < 2 * q + 1 → wkB o m v v = false := fun m v hv hm hlt => dF_no hm (by have := h2 v hv; omega)
    rw [oddF_gr ok (z := i) (long := 2 * q + 1) (by omega) hmin (by omega) (2 * q) [i] i (by simp; omega) (Wy.one o hi), dF_no (p := 1) (by omega) (by have := h2 i hi; omega)]
    rfl
  rcases h3 with ⟨h3, h4⟩ | ⟨h3, h4, h5, h6⟩
  · rw [if_pos h3]
    refine findSome_none fun q hq => ?_
    have hq' := List.mem_range.1 hq
    exact findSome_none fun i hi => none_at q i (by omega) (List.mem_range.1 hi)
  · rw [if_neg (by omega)]
    generalize (bestF o n).1 = b at *
    generalize (bestF o n).2 = z at *
    obtain ⟨hb1, hw⟩ := dF_wk h5 h4
    have hmin : ∀ m v, v < n → m % 2 = 1 → m < b → wkB o m v v = false := fun m v hv hm hlt => dF_no hm (by have := h2 v hv; omega)
    have e1 : b - 1 + 1 = b := by omega
    obtain ⟨g1, g2, g3⟩ := gr_nodup ok hb1 hmin (b - 1) [z] z (by simp; omega) (Wy.one o h3) (by rw [e1]; exact hw)
    have hbn : b ≤ n := by rw [← g3]; exact nodup_le n _ g1 g2
    refine findSome_range (k := (b - 1) / 2) (by omega) (fun q hq => ?_) ?_
    · exact findSome_none fun i hi => none_at q i (by omega) (List.mem_range.1 hi)
    · have e2 : 2 * ((b - 1) / 2) = b - 1 := by omega
      unfold oddI
      rw [e2]
      refine findSome_range h3 (fun i hi => ?_) ?_
      · rw [oddF_gr ok (z := i) hb1 hmin (by omega) (b - 1) [i] i (by simp; omega) (Wy.one o (by omega)), e1, dF_no hb1 (h6 i hi)]
        rfl
      · rw [oddF_gr ok (z := z) hb1 hmin (by omega) (b - 1) [z] z (by simp; omega) (Wy.one o h3), e1, hw]
        rfl
end Go.Proofs.Ytmobefgnkiboaaa.Im

namespace Go.Proofs.Ytmobefgnkiboaaa.Im
open Go.RowKit Go.Proofs.YtmobefgnkiboaaaW.PrintWords Go.Proofs.YtmobefgnkiboaaaW.PrintLast Go.Proofs.YtmobefgnkiboaaaW.PrintMore
set_option linter.unusedVariables false
/-- A semikernel of some people. -/
structure SemiK (arc : Nat → Nat → Prop) (W S : List Nat) : Prop where
  ne : S ≠ []
  sub : ∀ a ∈ S, a ∈ W
  ind : ∀ a ∈ S, ∀ b ∈ S, ¬ arc a b
  back : ∀ a ∈ S, ∀ x ∈ W, arc a x → ∃ b ∈ S, arc x b
/-- A kernel of some people. -/
structure KerK (arc : Nat → Nat → Prop) (W K : List Nat) : Prop where
  sub : ∀ a ∈ K, a ∈ W
  ind : ∀ a ∈ K, ∀ b ∈ K, ¬ arc a b
  abs : ∀ x ∈ W, x ∈ K ∨ ∃ b ∈ K, arc x b
theorem filter_less {l : List Nat} {p : Nat → Bool} {x : Nat} (hx : x ∈ l) (hp : p x = false) : (l.filter p).length < l.length := by
  induction l with
  | nil => cases hx
  | cons a l ih =>
    rw [List.filter_cons]
    have hle := List.length_filter_le p l
    rcases List.mem_cons.1 hx with rfl | h
    · rw [hp]; simp; omega
    · have h1 := ih h
      split
      · simp only [List.length_cons]; omega
      · simp only [List.length_cons]; omega
theorem neumann (arc : Nat → Nat → Prop) : ∀ (k : Nat) (W : List Nat), W.length ≤ k → (∀ W' : List Nat, (∀ x ∈ W', x ∈ W) → W' ≠ [] → ∃ S, SemiK arc W' S) → ∃ K, KerK arc W K
  | _, [], _, _ => ⟨[], (fun a h => by cases h), (fun a h => by cases h), (fun x h => by cases h)⟩
  | 0, v :: W, h, _ => by simp at h
  | k + 1, v :: W, h, hs => by
    classical
    obtain ⟨S, h1, h2, h3, h4⟩ := hs (v :: W) (fun x hx => hx) (by simp)
    obtain ⟨a0, ha0⟩ : ∃ a, a ∈ S := by
      cases S with
      | nil => exact absurd rfl h1
      | cons a S => exact ⟨a, List.mem_cons_self⟩
    have hB : ∀ x, x ∈ (v :: W).filter (fun x => decide (x ∉ S ∧ ∀ b ∈ S, ¬ arc x b)) ↔ x ∈ v :: W ∧ x ∉ S ∧ ∀ b ∈ S, ¬ arc x b := fun x => by
      rw [List.mem_filter, decide_eq_true_eq]
    have hlen : ((v :: W).filter (fun x => decide (x ∉ S ∧ ∀ b ∈ S, ¬ arc x b))).length ≤ k := by
      have := filter_less (p := fun x => decide (x ∉ S ∧ ∀ b ∈ S, ¬ arc x b)) (h2 a0 ha0) (decide_eq_false fun h => h.1 ha0)
      omega
    obtain ⟨K, k1, k2, k3⟩ := neumann arc k _ hlen (fun W' hW hne => hs W' (fun x hx => ((hB x).1 (hW x hx)).1) hne)
    refine ⟨S ++ K, fun a ha => ?_, fun a ha b hb => ?_, fun x hx => ?_⟩
    · rcases List.mem_append.1 ha with ha | ha
      · exact h2 a ha
      · exact ((hB a).1 (k1 a ha)).1
    · rcases List.mem_append.1 ha with ha1 | ha1
      · rcases List.mem_append.1 hb with hb1 | hb1
        · exact h3 a ha1 b hb1
        · intro hab
          have hbB := (hB b).1 (k1 b hb1)
          obtain ⟨c, hc, hbc⟩ := h4 a ha1 b hbB.1 hab
          exact hbB.2.2 c hc hbc
      · rcases List.mem_append.1 hb with hb1 | hb1
        · exact ((hB a).1 (k1 a ha1)).2.2 b hb1
        · exact k2 a ha1 b hb1
    · by_cases hxS : x ∈ S
      · exact .inl (List.mem_append_left _ hxS)
      · by_cases hxa : ∃ b ∈ S, arc x b
        · obtain ⟨b, hb, hxb⟩ := hxa
          exact .inr ⟨b, List.mem_append_left _ hb, hxb⟩
        · rcases k3 x ((hB x).2 ⟨hx, hxS, fun b hb hxb => hxa ⟨b, hb, hxb⟩⟩) with h5 | ⟨b, hb, hxb⟩
          · exact .inl (List.mem_append_right _ h5)
          · exact .inr ⟨b, List.mem_append_right _ hb, hxb⟩
/-- Walks. -/
inductive Wk (arc : Nat → Nat → Prop) : Nat → Nat → Nat → Prop
  | nil (a : Nat) : Wk arc 0 a a
  | cons {L a b c : Nat} : arc a b → Wk arc L b c → Wk arc (L + 1) a c
theorem Wk.trans {arc : Nat → Nat → Prop} {L M a b c : Nat} (h : Wk arc L a b) (h' : Wk arc M b c) : Wk arc (L + M) a c := by
  induction h with
  | nil a => rw [Nat.zero_add]; exact h'
  | @cons L a b c hab _ ih => rw [show L + 1 + M = (L + M) + 1 by omega]; exact .cons hab (ih h')
theorem Wk.one {arc : Nat → Nat → Prop} {a b : Nat} (h : arc a b) : Wk arc 1 a b := .cons h (.nil b)
theorem filter_lt {l : List Nat} {p q : Nat → Bool} (h : ∀ x, p x = true → q x = true) {y : Nat} (hy : y ∈ l) (hq : q y = true) (hp : p y = false) : (l.filter p).length < (l.filter q).length := by
  have e : l.filter p = (l.filter q).filter p := by
    rw [List.filter_filter]
    apply List.filter_congr
    intro x _
    cases hx : p x with
    | false => rfl
    | true => rw [h x hx]; rfl
  rw [e]
  exact filter_less (List.mem_filter.2 ⟨hy, hq⟩) hp
/-- Somebody whom everybody whom they reach reaches. -/
theorem terminal (arc : Nat → Nat → Prop) (W : List Nat) : ∀ (k v : Nat), v ∈ W → (∃ R : Nat → Bool, (∀ u, R u = true ↔ ∃ L, Wk arc L v u) ∧ (W.filter R).length ≤ k) → ∃ z ∈ W, ∀ u ∈ W, (∃ L, Wk arc L z u) → ∃ L, Wk arc L u z
  | 0, v, hv, ⟨R, hR, hk⟩ => by
    have : v ∈ W.filter R := List.mem_filter.2 ⟨hv, (hR v).2 ⟨0, .nil v⟩⟩
    have := List.length_pos_iff.2 (List.ne_nil_of_mem this)
    omega
  | k + 1, v, hv, ⟨R, hR, hk⟩ => by
    classical
    by_cases h : ∀ u ∈ W, (∃ L, Wk arc L v u) → ∃ L, Wk arc L u v
    · exact ⟨v, hv, h⟩
    · have ⟨u, hu⟩ := Classical.not_forall.1 h
      have ⟨huW, hu2⟩ := Classical.not_imp.1 hu
      have ⟨⟨L, hL⟩, hno⟩ := Classical.not_imp.1 hu2
      refine terminal arc W k u huW ⟨fun x => decide (∃ L, Wk arc L u x), fun x => by rw [decide_eq_true_eq], ?_⟩
      have := filter_lt (l := W) (p := fun x => decide (∃ L, Wk arc L u x)) (q := R) (fun x hx => by
        rw [decide_eq_true_eq] at hx
        obtain ⟨M, hM⟩ := hx
        exact (hR x).2 ⟨L + M, hL.trans hM⟩) hv ((hR v).2 ⟨0, .nil v⟩) (decide_eq_false hno)
      omega
/-- Without an odd closed walk there is a semikernel. -/
theorem rich_semi (arc : Nat → Nat → Prop) (hodd : ∀ m v, m % 2 = 1 → ¬ Wk arc m v v) (W : List Nat) (hne : W ≠ []) : ∃ S, SemiK arc W S := by
  classical
  -- the arcs within W
  have hin : ∃ arcW : Nat → Nat → Prop, ∀ a b, arcW a b ↔ (a ∈ W ∧ b ∈ W ∧ arc a b) := ⟨fun a b => a ∈ W ∧ b ∈ W ∧ arc a b, fun a b => Iff.rfl⟩
  obtain ⟨arcW, hW⟩ := hin
  have hlift : ∀ {L a b}, Wk arcW L a b → Wk arc L a b := fun {L a b} h => by
    induction h with
    | nil a => exact .nil a
    | cons hab _ ih => exact .cons ((hW _ _).1 hab).2.2 ih
  obtain ⟨v, hv⟩ : ∃ v, v ∈ W := by
    cases W with
    | nil => exact absurd rfl hne
    | cons v W => exact ⟨v, List.mem_cons_self⟩
  obtain ⟨z, hz, hterm⟩ := terminal arcW W _ v hv ⟨fun u => decide (∃ L, Wk arcW L v u), fun u => by rw [decide_eq_true_eq], Nat.le_refl _⟩
  have hS : ∀ x, x ∈ W.filter (fun x => decide (∃ L, L % 2 = 0 ∧ Wk arcW L z x)) ↔ x ∈ W ∧ ∃ L, L % 2 = 0 ∧ Wk arcW L z x := fun x => by rw [List.mem_filter, decide_eq_true_eq]
  refine ⟨W.filter (fun x => decide (∃ L, L % 2 = 0 ∧ Wk arcW L z x)), ?_, fun a ha => ((hS a).1 ha).1, fun a ha b hb hab => ?_, fun a ha x hx hax => ?_⟩
  · exact List.ne_nil_of_mem ((hS z).2 ⟨hz, 0, rfl, .nil z⟩)
  · obtain ⟨haW, L, hL, h1⟩ := (hS a).1 ha
    obtain ⟨hbW, M, hM, h2⟩ := (hS b).1 hb
    obtain ⟨N, h3⟩ := hterm b hbW ⟨M, h2⟩
    have hN : N % 2 = 0 := by
      rcases Nat.mod_two_eq_zero_or_one N with h | h
      · exact h
      · exact absurd (hlift (h2.trans h3)) (hodd (M + N) z (by omega))
    have := (h1.trans (Wk.one ((hW a b).2 ⟨haW, hbW, hab⟩))).trans h3
    exact hodd (L + 1 + N) z (by omega) (hlift this)
  · obtain ⟨haW, L, hL, h1⟩ := (hS a).1 ha
    have h2 := h1.trans (Wk.one ((hW a x).2 ⟨haW, hx, hax⟩))
    obtain ⟨N, h3⟩ := hterm x hx ⟨L + 1, h2⟩
    cases h3 with
    | nil => exact absurd (hlift h2) (hodd (L + 1) _ (by omega))
    | @cons N' x' y _ hxy h4 =>
      have := (hW _ y).1 hxy
      exact ⟨y, (hS y).2 ⟨this.2.1, L + 1 + 1, by omega, h2.trans (Wk.one hxy)⟩, this.2.2⟩
theorem richardson (arc : Nat → Nat → Prop) (hodd : ∀ m v, m % 2 = 1 → ¬ Wk arc m v v) (W : List Nat) : ∃ K, KerK arc W K :=
  neumann arc W.length W (Nat.le_refl _) (fun W' _ hne => rich_semi arc hodd W' hne)
def arcO (o : List Nat) (a b : Nat) : Prop := (o.getD a 0).testBit b = true
theorem wkB_of {o : List Nat} {n : Nat} (ok : Okt n o) {L a b : Nat} (h : Wk (arcO o) L a b) : wkB o L a b = true := by
  have n12 := ok.n12
  induction h with
  | nil a => simp [wkB]
  | @cons L a b c hab _ ih =>
    refine (wk_succ _ _ _ _).2 ⟨b, (memL_mem _ _).2 ⟨?_, hab⟩, ih⟩
    rcases Nat.lt_or_ge b 12 with h | h
    · exact h
    · have hlt := ok.lt12 a
      unfold arcO at hab
      rw [Nat.testBit_lt_two_pow (Nat.lt_of_lt_of_le hlt (Nat.pow_le_pow_right (by decide) h : 2 ^ 12 ≤ 2 ^ b))] at hab; cases hab
/-- Without a short odd closed walk there is none. -/
theorem no_odd {o : List Nat} {n : Nat} (ok : Okt n o) (h : ∀ v, v < n → dF o v v 1 = 99) : ∀ m v, v < n → m % 2 = 1 → wkB o m v v = false := by
  intro m
  induction m using Nat.strongRecOn with
  | ind m ih =>
    intro v hv hm
    cases hw : wkB o m v v with
    | false => rfl
    | true =>
      exfalso
      have n12 := ok.n12
      obtain ⟨d, rfl⟩ : ∃ d, m = d + 1 := ⟨m - 1, by omega⟩
      obtain ⟨g1, g2, g3⟩ := gr_nodup ok hm (fun m' v' hv' hm' hlt => ih m' hlt v' hv' hm') d [v] v (by simp; omega) (Wy.one o hv) hw
      have := nodup_le n _ g1 g2
      rw [dF_no (p := 1) hm (by rw [h v hv]; omega)] at hw
      cases hw
theorem arc_in {o : List Nat} {n : Nat} (ok : Okt n o) {a b : Nat} (h : arcO o a b) : b < n := by
  rcases Nat.lt_or_ge b n with h1 | h1
  · exact h1
  · unfold arcO at h
    rw [Nat.testBit_lt_two_pow (Nat.lt_of_lt_of_le (ok.lt a) (Nat.pow_le_pow_right (by decide) h1))] at h; cases h
theorem ker_list {o : List Nat} {n p : Nat} (ok : Okt n o) (hp : p < 2 ^ n) {K : List Nat} (hK : KerK (arcO o) (memL p) K) : inK n o p (setOf (ints K)) = true := by
  have bit : ∀ i, (setOf (ints K)).testBit i = true ↔ i ∈ K := fun i => by rw [setOf_bit, decide_eq_true_eq]
  have hKp : ∀ i ∈ K, p.testBit i = true := fun i hi => ((memL_mem p i).1 (hK.sub i hi)).2
  unfold inK
  rw [Bool.and_eq_true, beq_iff_eq]
  constructor
  · apply Nat.eq_of_testBit_eq
    intro i
    rw [Nat.testBit_and]
    cases hb : (setOf (ints K)).testBit i with
    | false => rfl
    | true => rw [hKp i ((bit i).1 hb)]; rfl
  · unfold kerB AllB
    rw [List.all_eq_true]
    intro a ha
    have ha' := List.mem_range.1 ha
    rw [Bool.and_eq_true]
    constructor
    · unfold indB
      cases hb : (setOf (ints K)).testBit a with
      | false => rfl
      | true =>
        rw [Bool.not_true, Bool.false_or, beq_iff_eq, land_zero]
        rintro i ⟨h4, h5⟩
        exact hK.ind a ((bit a).1 hb) i ((bit i).1 h5) h4
    · unfold absB
      cases hpb : p.testBit a with
      | false => rfl
      | true =>
        cases hb : (setOf (ints K)).testBit a with
        | true => rfl
        | false =>
          rw [Bool.or_eq_true]
          refine .inr ?_
          rw [bne_iff_ne, land_ne]
          rcases hK.abs a ((memL_mem p a).2 ⟨by have := ok.n12; omega, hpb⟩) with h | ⟨b, hbK, hab⟩
          · rw [(bit a).2 h] at hb; cases hb
          · exact ⟨b, hab, (bit b).2 hbK⟩
theorem rich_within {o : List Nat} {n : Nat} (ok : Okt n o) (h : ∀ v, v < n → dF o v v 1 = 99) {p : Nat} (hp : p < 2 ^ n) : kernL n o p ≠ [] := by
  obtain ⟨K, hK⟩ := richardson (arcO o) (fun m v hm hw => by
    have hv : v < n := by
      cases hw with
      | nil => simp at hm
      | cons hab h2 =>
        -- the last arc leads to v
        have key : ∀ {L a b}, Wk (arcO o) (L + 1) a b → b < n := fun {L} => by
          induction L with
          | zero => intro a b h; cases h with
            | cons hab h3 => cases h3; exact arc_in ok hab
          | succ L ih => intro a b h; cases h with
            | cons hab h3 => exact ih h3
        exact key (.cons hab h2)
    have h1 := wkB_of ok hw
    rw [no_odd ok h m v hv hm] at h1; cases h1) (memL p)
  have hk := ker_list ok hp hK
  intro he
  unfold kernL at he
  rw [List.filter_eq_nil_iff] at he
  refine he (setOf (ints K)) ?_ hk
  unfold inK at hk
  rw [Bool.and_eq_true, beq_iff_eq] at hk
  have : setOf (ints K) ≤ p := by rw [← hk.1]; exact Nat.and_le_right
  rw [List.mem_range'_1]; omega
end Go.Proofs.Ytmobefgnkiboaaa.Im

namespace Go.Proofs.Ytmobefgnkiboaaa.Im
open Go.RowKit Go.Proofs.YtmobefgnkiboaaaW.PrintWords Go.Proofs.YtmobefgnkiboaaaW.PrintLast Go.Proofs.YtmobefgnkiboaaaW.PrintMore
set_option linter.unusedVariables false
theorem part3 (l : List Nat) (j : Nat) (h : j < l.length) (w : World) : (part 3 (nums .i64 (ints l)).toArray j).run Try.prog w = .ok (.int .i64 (l.getD j 0 : Nat)) w := by
  have hagg : (isAgg 3).run Try.prog w = .ok false w := by kernel_rfl
  have hg : (nums .i64 (ints l)).toArray[j]? = some (.int .i64 (l.getD j 0 : Nat)) := by simp [nums, ints, h]
  simp only [part, Sem.run_bind, hagg, Result.andThen_ok, Bool.false_eq_true, if_false, hg, Sem.run_pure]
theorem items3 (d : Nat) (a b : List Nat) (w : World) : ∀ is : List Nat, (∀ i ∈ is, i < a.length ∧ i < b.length) →
    (Op.eqItems (d + 1) 3 1 (nums .i64 (ints a)).toArray (nums .i64 (ints b)).toArray is).run Try.prog w = .ok (is.all fun i => a.getD i 0 == b.getD i 0) w
  | [], _ => by simp [Op.eqItems]
  | i :: is, h => by
    obtain ⟨h1, h2⟩ := h i List.mem_cons_self
    have ih := items3 d a b w is (fun j hj => h j (List.mem_cons_of_mem _ hj))
    have he : (Op.equalIn (d + 1) 3 (.int .i64 (a.getD i 0 : Nat)) (.int .i64 (b.getD i 0 : Nat))).run Try.prog w = .ok (((a.getD i 0 : Nat) : Int) == ((b.getD i 0 : Nat) : Int)) w := by simp [Op.equalIn]
    have e : (((a.getD i 0 : Nat) : Int) == ((b.getD i 0 : Nat) : Int)) = (a.getD i 0 == b.getD i 0) := by
      rw [Bool.eq_iff_iff, beq_iff_eq, beq_iff_eq]; omega
    simp only [Op.eqItems, Sem.run_bind, Nat.mul_one, part3 a i h1 w, part3 b i h2 w, he, Result.andThen_ok, List.all_cons, e]
    cases a.getD i 0 == b.getD i 0
    · simp
    · simpa using ih
def eqB (a b : List Nat) : Bool := (List.range 12).all fun i => a.getD i 0 == b.getD i 0
theorem eqB_iff {a b : List Nat} (ha : a.length = 12) (hb : b.length = 12) : eqB a b = true ↔ a = b := by
  unfold eqB
  rw [List.all_eq_true]
  constructor
  · intro h
    exact ext12 ha hb fun i hi => by simpa using h i (List.mem_range.2 hi)
  · intro h i _
    rw [h]; simp
theorem part48 (n : Nat) (a : List Nat) (ha : a.length = 12) (w : World) : (part 48 (tnN n a) 1).run Try.prog w = .ok (.agg (nums .i64 (ints a)).toArray) w := by
  have hagg : (isAgg 48).run Try.prog w = .ok true w := by kernel_rfl
  have hsz : (sizeOf 48).run Try.prog w = .ok 12 w := by kernel_rfl
  have hx : (tnN n a).extract 1 (1 + 12) = (nums .i64 (ints a)).toArray := by
    unfold tnN tnA
    have hl : ((ints a).map (Value.int .i64)).length = 12 := by rw [List.length_map, ints_length, ha]
    simp [List.extract_toArray, nums]
    rw [List.take_of_length_le (by rw [hl]; omega)]
  simp only [part, Sem.run_bind, hagg, Result.andThen_ok, if_true, hsz, hx, Sem.run_pure]
theorem eq50 (n : Nat) (a b : List Nat) (ha : a.length = 12) (hb : b.length = 12) (w : World) : (Op.equalIn 10000 50 (.agg (tnN n a)) (.agg (tnN n b))).run Try.prog w = .ok (eqB a b) w := by
  have h1 : (Op.equalIn 9999 48 (.agg (nums .i64 (ints a)).toArray) (.agg (nums .i64 (ints b)).toArray)).run Try.prog w = .ok (eqB a b) w := by
    obtain ⟨i0, hi, _⟩ := Option.map_eq_some_iff.1 info3
    rw [run_equalIn_array w 9998 _ _ Try.underlying48 hi, show Try.prog.cellsOf 3 = 1 by kernel_rfl]
    exact items3 9997 a b w (List.range 12) (fun i hi => by have := List.mem_range.1 hi; omega)
  have hn : ∀ d : Nat, (Op.equalIn (d + 1) 3 (.int .i64 (n : Nat)) (.int .i64 (n : Nat))).run Try.prog w = .ok true w := fun d => by simp [Op.equalIn]
  have h := eqA_of (P := Try.prog) (d := 9999) (xs := tnN n a) (ys := tnN n b) (w := w) Try.underlying50 (by kernel_rfl) (eqf_cons (r := true) (s := eqB a b) (by kernel_rfl) (by kernel_rfl) (by kernel_rfl) (hn 9998) (eqf_last (by kernel_rfl) (part48 n a ha w) (part48 n b hb w) h1))
  rw [Bool.true_and] at h
  exact h
theorem nq50 (n : Nat) (a b : List Nat) (ha : a.length = 12) (hb : b.length = 12) (w : World) : (binOp .neq 50 (.agg (tnN n a)) (.agg (tnN n b))).run Try.prog w = .ok (.bool (!eqB a b)) w := by
  have h := eq50 n a b ha hb w
  simp only [binOp]
  simp [Op.equal, Op.maxDepth, h]
set_option maxHeartbeats 800000 in
theorem perf2_any (n : Nat) (o : List Nat) (s p g6 g3 : Nat) (w : World) (ok : Okt n o) (hs : s < 4096) (hp : p < 4096) (ht : TnN w g6 n o) (hb : Blk w g3 3 #[.int .i64 (p : Nat)]) :
    Calls Try.prog 76 #[.int .i64 (s : Nat), .pointer (some ⟨g6, 0, none⟩), .pointer (some ⟨g3, 0, none⟩)] w fun e w' => e = .returned (.bool (kerB n o s p)) ∧ Below w.heap.size w w' := by
  have c3 : w.cell? ⟨g3, 0, none⟩ = some (.int .i64 (p : Nat)) := by rw [hb.cell 0]; rfl
  have HT := Aside0.mk ht
  have HK := Aside0.mk ok
  clear ht ok hb
  go_enter Try.func76, Try.ntmps76
  go_wp2_with (refine wpList_load_row rfl 50 _ rfl g6 rfl 50 (tnN n o) (0, 0) _ HT.out Try.underlying50 rfl (tn_info _ _ HK.out.len) ?_)
  refine (kernel_any n o s p w HK.out (by omega) (by omega)).mono ?_
  rintro e w1 ⟨rfl, hb1⟩
  have HB1 := Aside0.mk hb1
  clear hb1
  go_wp2_with fail
  go_ret
  exact ⟨rfl, HB1.out⟩
structure InI (g6 g3 n : Nat) (o : List Nat) (p : Nat) (st : List Nat) (w : World) : Prop where
  t : TnN w g6 n o
  b : Blk w g3 3 #[.int .i64 (p : Nat)]
theorem cf76 (args : Array Value) (w : World) : (callFunc 76 args).run Try.prog w = .ok (.enter 76 args) w := by kernel_rfl
/-- Has the town within some people a kernel? -/
def hasK (n : Nat) (o : List Nat) (p : Nat) : Bool := (onF (fun s => kerB n o s p) (mem12 p 0) 0).isSome
theorem hasK_any (n : Nat) (o : List Nat) (p g6 g3 : Nat) (w : World) (ok : Okt n o) (hp : p < 4096) (ht : TnN w g6 n o) (hb : Blk w g3 3 #[.int .i64 (p : Nat)]) :
    Calls Try.prog 73 #[.int .i64 (p : Nat), .func (.func 76) #[] #[.pointer (some ⟨g6, 0, none⟩), .pointer (some ⟨g3, 0, none⟩)]] w fun e w' => e = .returned (.bool (hasK n o p)) ∧ Below w.heap.size w w' := by
  have V : Visit (InI g6 g3 n o p) none 76 #[.pointer (some ⟨g6, 0, none⟩), .pointer (some ⟨g3, 0, none⟩)] (visF fun s => kerB n o s p) :=
    ⟨cf76, fun st w1 w2 h hg => ⟨Blk.gb h.t hg (by simp), h.b.gb hg (by simp)⟩, fun st s w1 hs h => (perf2_any n o s p g6 g3 w1 ok hs hp h.t h.b).mono fun e w2 ⟨h1, h2⟩ => ⟨h1, ⟨Blk.later h.t h2, h.b.later h2⟩, gb_below h2⟩⟩
  obtain ⟨st', hon⟩ := onL_onF (fun s => kerB n o s p) (mem12 p 0) 0 []
  refine (each_any V p hp [] w ⟨ht, hb⟩ (fun g h => by cases h)).mono fun e w' h => ?_
  obtain ⟨h1, _, h3⟩ := h
  rw [hon] at h1
  refine ⟨?_, below_gb h3⟩
  rw [h1]
  unfold hasK
  cases onF (fun s => kerB n o s p) (mem12 p 0) 0 <;> rfl
def badP (n : Nat) (o : List Nat) (p : Nat) : Bool := p != 0 && (!eqB (witO n o p) zero12 && !hasK n (witO n o p) p)
def stepP (n : Nat) (o : List Nat) (st : Option Nat) (p : Nat) : Option Nat := match st with
  | none => if badP n o p then some p else none
  | some b => if decide ((memL p).length < (memL b).length) && badP n o p then some p else some b
def visP (n : Nat) (o : List Nat) (st : Option Nat) (p : Nat) : Bool × Option Nat := (false, stepP n o st p)
def BstP (w : World) (base : Nat) (v : Value) : Option Nat → Prop
  | none => v = .slice none 0 0
  | some b => b < 4096 ∧ b ≠ 0 ∧ Kd.R (Kd.int .i64) 3 w base (fun _ => True) v (ints (memL b))
structure PerfI (gb gt base n : Nat) (o : List Nat) (w0 : World) (st : Option Nat) (w : World) : Prop where
  out : ∃ v, Blk w gb 25 #[v] ∧ BstP w base v st
  bt : TnN w gt n o
  ne : gt ≠ gb
  bel : Below base w0 w
  size : base ≤ w.heap.size
  b1 : base ≤ gb
theorem BstP.below {w w' : World} {base : Nat} {v : Value} : ∀ {st : Option Nat}, BstP w base v st → Below w.heap.size w w' → BstP w' base v st
  | none, h, _ => h
  | some b, ⟨h1, h2, h3⟩, hb => ⟨h1, h2, Kd.R_below h3 hb⟩
theorem PerfI.keep {gb gt base n : Nat} {o : List Nat} {w0 : World} {st : Option Nat} {w w' : World} (h : PerfI gb gt base n o w0 st w) (hg : w.grownBy w' none) : PerfI gb gt base n o w0 st w' := by
  obtain ⟨⟨v, hb, hr⟩, h2, h3, h4, h5, h6⟩ := h
  exact ⟨⟨v, hb.gb hg (by simp), hr.below (below_gb hg)⟩, Blk.gb h2 hg (by simp), h3, h4.grown hg h5 (fun k hk => by cases hk), Nat.le_trans h5 hg.size, h6⟩
def PerfPost (gb gt base n : Nat) (o : List Nat) (w0 : World) (st : Option Nat) (w : World) (e : Ending) (w' : World) : Prop :=
  e = .returned (.bool false) ∧ PerfI gb gt base n o w0 st w' ∧ w.grownBy w' (some gb)
set_option maxHeartbeats 3200000 in
set_option maxRecDepth 100000 in
theorem perf1_any (gb gt base n : Nat) (o : List Nat) (ok : Okt n o) (w0 : World) (st : Option Nat) (p : Nat) (w : World) (hp : p < 4096) (h : PerfI gb gt base n o w0 st w) :
    Calls Try.prog 74 #[.int .i64 (p : Nat), .pointer (some ⟨gb, 0, none⟩), .pointer (some ⟨gt, 0, none⟩)] w (PerfPost gb gt base n o w0 (stepP n o st p) w) := by
  have qn : ∀ (w : World) (a : Option Addr) (n c n' c' : Nat), (binOp .neq 25 (.slice a n c) (.slice none n' c')).run Try.prog w = .ok (.bool (!a.isNone)) w := fun w a n c n' c' => run_neq_slice_nil_any w _ _ a n c n' c' Try.underlying25
  have hmf : ∀ (fn : Fn) (first cap : Array Value) (w : World), (Instr.makeFunc fn first cap).run Try.prog w = .ok (.func fn first cap) w := fun _ _ _ _ => rfl
  have HH := Aside0.mk h
  have HK := Aside0.mk ok
  have ha0 : Below w.heap.size w (w.alloc (.cells #[.int .i64 (p : Nat)] 3)) := below_alloc (Below.refl _ _) _
  have HA := Aside0.mk ha0
  have HM := Aside0.mk (members_any p (w.alloc (.cells #[.int .i64 (p : Nat)] 3)) hp)
  rw [show mem12 p 0 = memL p from rfl] at HM
  have HB3 : Aside0 (Blk (w.alloc (.cells #[.int .i64 (p : Nat)] 3)) w.heap.size 3 #[.int .i64 (p : Nat)]) := ⟨Blk.new _ _ _⟩
  clear h ok ha0
  by_cases h0 : p = 0
  · have hst : stepP n o st p = st := by
      rw [h0]
      cases st <;> simp [stepP, badP]
    rw [hst]
    have hp0 : ((p : Int) == 0) = true := by simp; omega
    clear hst h0
    go_enter Try.func74, Try.ntmps74
    go_wp2_with fail
    refine HM.out.mono ?_
    rintro e w1 ⟨v, rfl, hr, hb⟩
    have HB := Aside0.mk hb
    have HG : Aside0 (w.grownBy w1 none) := ⟨gb_trans (gb_alloc w _ none) (gb_below hb)⟩
    have c3 : w1.cell? ⟨w.heap.size, 0, none⟩ = some (.int .i64 (p : Nat)) := (HB3.out.later hb).cell 0
    clear hr hb
    go_wp2_with fail
    go_ret
    exact ⟨rfl, HH.out.keep HG.out, gb_none HG.out⟩
  · have hp0 : ((p : Int) == 0) = false := by rw [beq_eq_false_iff_ne]; omega
    have HMe : Aside0 (0 < (memL p).length) := ⟨memL_pos hp (by omega)⟩
    have HP0 : Aside0 (p ≠ 0) := ⟨h0⟩
    have HWO := Aside0.mk (witO_okt HK.out p)
    clear h0
    obtain ⟨⟨v0, hb0, hr0⟩, h2, h3, h4, h5, h6⟩ := HH.out
    have HBB := Aside0.mk hb0
    have HBT := Aside0.mk h2
    have H5 := Aside0.mk h5
    clear hb0 h2 h3 h4 h5 h6
    cases st with
    | none =>
      have hv0 : v0 = .slice none 0 0 := hr0
      subst hv0
      clear hr0
      have HNo : Aside0 (badP n o p = false → stepP n o none p = none) := ⟨fun h => by simp [stepP, h]⟩
      have HYes : Aside0 (badP n o p = true → stepP n o none p = some p) := ⟨fun h => by simp [stepP, h]⟩
      go_enter Try.func74, Try.ntmps74
      go_wp2_with fail
      refine HM.out.mono ?_
      rintro e w1 ⟨v, rfl, hr, hb⟩
      have HB1 := Aside0.mk (below_then HA.out HA.out.size hb)
      have HP1 := Aside0.mk (HB3.out.later hb)
      have HT1 := Aside0.mk (Blk.later (Blk.later HBT.out HA.out) hb)
      have HO1 := Aside0.mk (Blk.later (Blk.later HBB.out HA.out) hb)
      have HR1 := Aside0.mk (Kd.R_lower hr (Nat.le_trans H5.out HA.out.size))
      have c3 : w1.cell? ⟨w.heap.size, 0, none⟩ = some (.int .i64 (p : Nat)) := HP1.out.cell 0
      have cb : w1.cell? ⟨gb, 0, none⟩ = some (.slice none 0 0) := HO1.out.cell 0
      obtain ⟨Ap, cp, rfl, hlcp, hCp⟩ := Kd.R_reads hr
      have hip : (ints (memL p)).length = (memL p).length := ints_length _
      rw [hip] at HR1 hlcp ⊢
      clear hr hb hCp HB3 HA HM
      obtain ⟨lp, hlp⟩ : ∃ lp, (memL p).length = lp := ⟨_, rfl⟩
      rw [hlp] at hlcp HR1 ⊢
      clear hip hlp
      go_wp2_with (refine wpList_load_row rfl 50 _ rfl gt rfl 50 (tnN n o) (0, 0) _ HT1.out Try.underlying50 rfl (tn_info _ _ HK.out.len) ?_)
      refine (within_any n o p w1 HK.out hp).mono ?_
      rintro e w2 ⟨rfl, hb2⟩
      have HT2 := Aside0.mk (Blk.later (Blk.later HT1.out hb2) (below_alloc (Below.refl w2.heap.size w2) (.cells (tnN n (witO n o p)) 50)))
      have HP2 := Aside0.mk (Blk.later (Blk.later HP1.out hb2) (below_alloc (Below.refl w2.heap.size w2) (.cells (tnN n (witO n o p)) 50)))
      have HW3 : Aside0 (TnN (w2.alloc (.cells (tnN n (witO n o p)) 50)) w2.heap.size n (witO n o p)) := ⟨Blk.new _ _ _⟩
      have HB3 := Aside0.mk (below_alloc (below_then HB1.out HB1.out.size hb2) (.cells (tnN n (witO n o p)) 50))
      have HB13 := Aside0.mk (below_alloc hb2 (.cells (tnN n (witO n o p)) 50))
      have c3 : (w2.alloc (.cells (tnN n (witO n o p)) 50)).cell? ⟨w.heap.size, 0, none⟩ = some (.int .i64 (p : Nat)) := HP2.out.cell 0
      have ct : (w2.alloc (.cells (tnN n (witO n o p)) 50)).cell? ⟨gt, 0, none⟩ = some (.int .i64 (n : Nat)) := TnN.cell0 HT2.out
      clear hb2
      cases heq : eqB (witO n o p) zero12 with
      | true =>
        have hnq : ∀ w, (binOp .neq 50 (.agg (tnN n (witO n o p))) (.agg #[.int .i64 (n : Nat), .int .i64 0, .int .i64 0, .int .i64 0, .int .i64 0, .int .i64 0, .int .i64 0, .int .i64 0, .int .i64 0, .int .i64 0, .int .i64 0, .int .i64 0, .int .i64 0])).run Try.prog w = .ok (.bool false) w := fun w => by have h := nq50 n (witO n o p) zero12 HWO.out.len rfl w; rw [heq] at h; exact h
        have HNB := Aside0.mk (HNo.out (by unfold badP; rw [heq]; simp))
        clear heq
        go_wp2_with (first | (refine wpList_store_row rfl 50 _ _ rfl w2.heap.size (tnN n (witO n o p)) rfl rfl 50 (tnN 0 zero12) (heap_alloc_new w2 _) (tn_info _ _ HWO.out.len) (tn_old _ _ _ _ rfl HWO.out.len) (tn_one _ _) ?_; rw [World.setRow_alloc_new]) | (refine wpList_load_row rfl 50 _ rfl w2.heap.size rfl 50 (tnN n (witO n o p)) (0, 0) _ HW3.out Try.underlying50 rfl (tn_info _ _ HWO.out.len) ?_))
        go_ret
        rw [HNB.out]
        exact ⟨rfl, HH.out.keep (gb_below HB3.out), gb_below HB3.out⟩
      | false =>
        have hnq : ∀ w, (binOp .neq 50 (.agg (tnN n (witO n o p))) (.agg #[.int .i64 (n : Nat), .int .i64 0, .int .i64 0, .int .i64 0, .int .i64 0, .int .i64 0, .int .i64 0, .int .i64 0, .int .i64 0, .int .i64 0, .int .i64 0, .int .i64 0, .int .i64 0])).run Try.prog w = .ok (.bool true) w := fun w => by have h := nq50 n (witO n o p) zero12 HWO.out.len rfl w; rw [heq] at h; exact h
        have HKc := Aside0.mk (hasK_any n (witO n o p) p w2.heap.size w.heap.size (w2.alloc (.cells (tnN n (witO n o p)) 50)) HWO.out hp HW3.out HP2.out)
        cases hk : hasK n (witO n o p) p with
        | true =>
          have HNB := Aside0.mk (HNo.out (by unfold badP; rw [hk]; simp))
          rw [hk] at HKc
          clear heq hk
          go_wp2_with (first | (refine wpList_store_row rfl 50 _ _ rfl w2.heap.size (tnN n (witO n o p)) rfl rfl 50 (tnN 0 zero12) (heap_alloc_new w2 _) (tn_info _ _ HWO.out.len) (tn_old _ _ _ _ rfl HWO.out.len) (tn_one _ _) ?_; rw [World.setRow_alloc_new]) | (refine wpList_load_row rfl 50 _ rfl w2.heap.size rfl 50 (tnN n (witO n o p)) (0, 0) _ HW3.out Try.underlying50 rfl (tn_info _ _ HWO.out.len) ?_))
          refine HKc.out.mono ?_
          rintro e w4 ⟨rfl, hb4⟩
          have HB4 := Aside0.mk (below_then HB3.out HB3.out.size hb4)
          clear hb4
          go_wp2_with fail
          go_ret
          rw [HNB.out]
          exact ⟨rfl, HH.out.keep (gb_below HB4.out), gb_below HB4.out⟩
        | false =>
          have HNB := Aside0.mk (HYes.out (by unfold badP; rw [heq, hk, bne_iff_ne.2 HP0.out]; rfl))
          rw [hk] at HKc
          clear heq hk
          go_wp2_with (first | (refine wpList_store_row rfl 50 _ _ rfl w2.heap.size (tnN n (witO n o p)) rfl rfl 50 (tnN 0 zero12) (heap_alloc_new w2 _) (tn_info _ _ HWO.out.len) (tn_old _ _ _ _ rfl HWO.out.len) (tn_one _ _) ?_; rw [World.setRow_alloc_new]) | (refine wpList_load_row rfl 50 _ rfl w2.heap.size rfl 50 (tnN n (witO n o p)) (0, 0) _ HW3.out Try.underlying50 rfl (tn_info _ _ HWO.out.len) ?_))
          refine HKc.out.mono ?_
          rintro e w4 ⟨rfl, hb4⟩
          have HB4 := Aside0.mk (below_then HB3.out HB3.out.size hb4)
          have hb14 := below_then HB13.out HB13.out.size hb4
          have k1 := HO1.out.later hb14
          have cg : w4.cell? ⟨gb, 0, none⟩ = some (.slice none 0 0) := k1.cell 0
          have fg : w4.frozen? ⟨gb, 0, none⟩ = false := k1.frozen 0
          have HO4 := Aside0.mk k1
          have HT4 := Aside0.mk (Blk.later HT1.out hb14)
          have HR4 := Aside0.mk (Kd.R_below HR1.out hb14)
          clear hb4 hb14 k1
          go_wp2_with fail
          go_ret
          rw [HNB.out]
          obtain ⟨_, _, h3, h4, h5, h6⟩ := HH.out
          have g1 : w.grownBy (w4.setCell ⟨gb, 0, none⟩ (.slice Ap lp cp)) (some gb) := gb_trans (gb_below HB4.out) (gb_set _ _ _)
          exact ⟨rfl, ⟨⟨.slice Ap lp cp, Blk.set_ HO4.out 0 (.slice Ap lp cp), hp, HP0.out, Kd.R_set HR4.out HO4.out (by decide) 0 (.slice Ap lp cp)⟩, Blk.far HT4.out h3 (.slice Ap lp cp), h3, h4.grown g1 h5 (fun k hk => by cases hk; exact h6), Nat.le_trans h5 g1.size, h6⟩, g1⟩
    | some b =>
      obtain ⟨hb12, hb00, hrb⟩ := hr0
      have hbl := memL_pos hb12 (by omega)
      obtain ⟨Ab, cb, rfl, hlcb, hCb⟩ := Kd.R_reads hrb
      obtain ⟨ab, rfl⟩ := C_some hCb (by rw [ints_length]; exact hbl)
      have hil : (ints (memL b)).length = (memL b).length := ints_length _
      have hip : (ints (memL p)).length = (memL p).length := ints_length _
      rw [hil] at HBB
      clear hrb hCb hlcb
      by_cases hsk : (memL b).length ≤ (memL p).length
      · have hst : stepP n o (some b) p = some b := by
          unfold stepP
          simp only
          rw [decide_eq_false (by omega), Bool.false_and]
          rfl
        rw [hst]
        have hd : decide ((memL b).length ≤ (memL p).length) = true := decide_eq_true hsk
        clear hst hsk
        go_enter Try.func74, Try.ntmps74
        go_wp2_with fail
        refine HM.out.mono ?_
        rintro e w1 ⟨v, rfl, hr, hb⟩
        have HB1 := Aside0.mk (below_then HA.out HA.out.size hb)
        have HO1 := Aside0.mk (Blk.later (Blk.later HBB.out HA.out) hb)
        have c3 : w1.cell? ⟨w.heap.size, 0, none⟩ = some (.int .i64 (p : Nat)) := (HB3.out.later hb).cell 0
        have cb1 : w1.cell? ⟨gb, 0, none⟩ = some (.slice (some ab) (memL b).length cb) := HO1.out.cell 0
        obtain ⟨Ap, cp, rfl, hlcp, hCp⟩ := Kd.R_reads hr
        rw [hip]
        clear hr hb hCp
        generalize (memL b).length = lb at *
        generalize (memL p).length = lp at *
        clear hil hip
        go_wp2_with fail
        go_ret
        exact ⟨rfl, HH.out.keep (gb_below HB1.out), gb_below HB1.out⟩
      · have HNo : Aside0 (badP n o p = false → stepP n o (some b) p = some b) := ⟨fun h => by simp [stepP, h]⟩
        have HYes : Aside0 (badP n o p = true → stepP n o (some b) p = some p) := ⟨fun h => by simp [stepP, h]; omega⟩
        have hd : decide ((memL b).length ≤ (memL p).length) = false := decide_eq_false hsk
        clear hsk
        go_enter Try.func74, Try.ntmps74
        go_wp2_with fail
        refine HM.out.mono ?_
        rintro e w1 ⟨v, rfl, hr, hb⟩
        have HB1 := Aside0.mk (below_then HA.out HA.out.size hb)
        have HP1 := Aside0.mk (HB3.out.later hb)
        have HT1 := Aside0.mk (Blk.later (Blk.later HBT.out HA.out) hb)
        have HO1 := Aside0.mk (Blk.later (Blk.later HBB.out HA.out) hb)
        have HR1 := Aside0.mk (Kd.R_lower hr (Nat.le_trans H5.out HA.out.size))
        have c3 : w1.cell? ⟨w.heap.size, 0, none⟩ = some (.int .i64 (p : Nat)) := HP1.out.cell 0
        have cb1 : w1.cell? ⟨gb, 0, none⟩ = some (.slice (some ab) (memL b).length cb) := HO1.out.cell 0
        obtain ⟨Ap, cp, rfl, hlcp, hCp⟩ := Kd.R_reads hr
        rw [hip] at HR1 hlcp ⊢
        clear hr hb hCp HB3 HA HM
        obtain ⟨lb, hlb⟩ : ∃ lb, (memL b).length = lb := ⟨_, rfl⟩
        obtain ⟨lp, hlp⟩ : ∃ lp, (memL p).length = lp := ⟨_, rfl⟩
        rw [hlp] at hd hlcp HR1 ⊢
        rw [hlb] at hd HO1 cb1
        clear hil hip hlb hlp
        go_wp2_with (refine wpList_load_row rfl 50 _ rfl gt rfl 50 (tnN n o) (0, 0) _ HT1.out Try.underlying50 rfl (tn_info _ _ HK.out.len) ?_)
        refine (within_any n o p w1 HK.out hp).mono ?_
        rintro e w2 ⟨rfl, hb2⟩
        have HT2 := Aside0.mk (Blk.later (Blk.later HT1.out hb2) (below_alloc (Below.refl w2.heap.size w2) (.cells (tnN n (witO n o p)) 50)))
        have HP2 := Aside0.mk (Blk.later (Blk.later HP1.out hb2) (below_alloc (Below.refl w2.heap.size w2) (.cells (tnN n (witO n o p)) 50)))
        have HW3 : Aside0 (TnN (w2.alloc (.cells (tnN n (witO n o p)) 50)) w2.heap.size n (witO n o p)) := ⟨Blk.new _ _ _⟩
        have HB3 := Aside0.mk (below_alloc (below_then HB1.out HB1.out.size hb2) (.cells (tnN n (witO n o p)) 50))
        have HB13 := Aside0.mk (below_alloc hb2 (.cells (tnN n (witO n o p)) 50))
        have c3 : (w2.alloc (.cells (tnN n (witO n o p)) 50)).cell? ⟨w.heap.size, 0, none⟩ = some (.int .i64 (p : Nat)) := HP2.out.cell 0
        have ct : (w2.alloc (.cells (tnN n (witO n o p)) 50)).cell? ⟨gt, 0, none⟩ = some (.int .i64 (n : Nat)) := TnN.cell0 HT2.out
        clear hb2
        cases heq : eqB (witO n o p) zero12 with
        | true =>
          have hnq : ∀ w, (binOp .neq 50 (.agg (tnN n (witO n o p))) (.agg #[.int .i64 (n : Nat), .int .i64 0, .int .i64 0, .int .i64 0, .int .i64 0, .int .i64 0, .int .i64 0, .int .i64 0, .int .i64 0, .int .i64 0, .int .i64 0, .int .i64 0, .int .i64 0])).run Try.prog w = .ok (.bool false) w := fun w => by have h := nq50 n (witO n o p) zero12 HWO.out.len rfl w; rw [heq] at h; exact h
          have HNB := Aside0.mk (HNo.out (by unfold badP; rw [heq]; simp))
          clear heq
          go_wp2_with (first | (refine wpList_store_row rfl 50 _ _ rfl w2.heap.size (tnN n (witO n o p)) rfl rfl 50 (tnN 0 zero12) (heap_alloc_new w2 _) (tn_info _ _ HWO.out.len) (tn_old _ _ _ _ rfl HWO.out.len) (tn_one _ _) ?_; rw [World.setRow_alloc_new]) | (refine wpList_load_row rfl 50 _ rfl w2.heap.size rfl 50 (tnN n (witO n o p)) (0, 0) _ HW3.out Try.underlying50 rfl (tn_info _ _ HWO.out.len) ?_))
          go_ret
          rw [HNB.out]
          exact ⟨rfl, HH.out.keep (gb_below HB3.out), gb_below HB3.out⟩
        | false =>
          have hnq : ∀ w, (binOp .neq 50 (.agg (tnN n (witO n o p))) (.agg #[.int .i64 (n : Nat), .int .i64 0, .int .i64 0, .int .i64 0, .int .i64 0, .int .i64 0, .int .i64 0, .int .i64 0, .int .i64 0, .int .i64 0, .int .i64 0, .int .i64 0, .int .i64 0])).run Try.prog w = .ok (.bool true) w := fun w => by have h := nq50 n (witO n o p) zero12 HWO.out.len rfl w; rw [heq] at h; exact h
          have HKc := Aside0.mk (hasK_any n (witO n o p) p w2.heap.size w.heap.size (w2.alloc (.cells (tnN n (witO n o p)) 50)) HWO.out hp HW3.out HP2.out)
          cases hk : hasK n (witO n o p) p with
          | true =>
            have HNB := Aside0.mk (HNo.out (by unfold badP; rw [hk]; simp))
            rw [hk] at HKc
            clear heq hk
            go_wp2_with (first | (refine wpList_store_row rfl 50 _ _ rfl w2.heap.size (tnN n (witO n o p)) rfl rfl 50 (tnN 0 zero12) (heap_alloc_new w2 _) (tn_info _ _ HWO.out.len) (tn_old _ _ _ _ rfl HWO.out.len) (tn_one _ _) ?_; rw [World.setRow_alloc_new]) | (refine wpList_load_row rfl 50 _ rfl w2.heap.size rfl 50 (tnN n (witO n o p)) (0, 0) _ HW3.out Try.underlying50 rfl (tn_info _ _ HWO.out.len) ?_))
            refine HKc.out.mono ?_
            rintro e w4 ⟨rfl, hb4⟩
            have HB4 := Aside0.mk (below_then HB3.out HB3.out.size hb4)
            clear hb4
            go_wp2_with fail
            go_ret
            rw [HNB.out]
            exact ⟨rfl, HH.out.keep (gb_below HB4.out), gb_below HB4.out⟩
          | false =>
            have HNB := Aside0.mk (HYes.out (by unfold badP; rw [heq, hk, bne_iff_ne.2 HP0.out]; rfl))
            rw [hk] at HKc
            clear heq hk
            go_wp2_with (first | (refine wpList_store_row rfl 50 _ _ rfl w2.heap.size (tnN n (witO n o p)) rfl rfl 50 (tnN 0 zero12) (heap_alloc_new w2 _) (tn_info _ _ HWO.out.len) (tn_old _ _ _ _ rfl HWO.out.len) (tn_one _ _) ?_; rw [World.setRow_alloc_new]) | (refine wpList_load_row rfl 50 _ rfl w2.heap.size rfl 50 (tnN n (witO n o p)) (0, 0) _ HW3.out Try.underlying50 rfl (tn_info _ _ HWO.out.len) ?_))
            refine HKc.out.mono ?_
            rintro e w4 ⟨rfl, hb4⟩
            have HB4 := Aside0.mk (below_then HB3.out HB3.out.size hb4)
            have hb14 := below_then HB13.out HB13.out.size hb4
            have k1 := HO1.out.later hb14
            have cg : w4.cell? ⟨gb, 0, none⟩ = some (.slice (some ab) lb cb) := k1.cell 0
            have fg : w4.frozen? ⟨gb, 0, none⟩ = false := k1.frozen 0
            have HO4 := Aside0.mk k1
            have HT4 := Aside0.mk (Blk.later HT1.out hb14)
            have HR4 := Aside0.mk (Kd.R_below HR1.out hb14)
            clear hb4 hb14 k1
            go_wp2_with fail
            go_ret
            rw [HNB.out]
            obtain ⟨_, _, h3, h4, h5, h6⟩ := HH.out
            have g1 : w.grownBy (w4.setCell ⟨gb, 0, none⟩ (.slice Ap lp cp)) (some gb) := gb_trans (gb_below HB4.out) (gb_set _ _ _)
            exact ⟨rfl, ⟨⟨.slice Ap lp cp, Blk.set_ HO4.out 0 (.slice Ap lp cp), hp, HP0.out, Kd.R_set HR4.out HO4.out (by decide) 0 (.slice Ap lp cp)⟩, Blk.far HT4.out h3 (.slice Ap lp cp), h3, h4.grown g1 h5 (fun k hk => by cases hk; exact h6), Nat.le_trans h5 g1.size, h6⟩, g1⟩
end Go.Proofs.Ytmobefgnkiboaaa.Im

namespace Go.Proofs.Ytmobefgnkiboaaa.Im
open Go.RowKit Go.Proofs.YtmobefgnkiboaaaW.PrintWords Go.Proofs.YtmobefgnkiboaaaW.PrintLast Go.Proofs.YtmobefgnkiboaaaW.PrintMore
set_option linter.unusedVariables false
/-- A list, a judgement and an error. -/
def OutP (r : List Nat) (b : Bool) (er : Int) (w : World) (e : Ending) (w' : World) : Prop :=
  ∃ A c, e = .returned (.tuple #[.slice A r.length c, .bool b, .int .i64 er]) ∧ r.length ≤ c ∧ Kd.C (Kd.int .i64) w' A r.length (ints r) ∧ Below w.heap.size w w'
theorem outP_nil (b : Bool) (er : Int) (w w' : World) (h : Below w.heap.size w w') : OutP [] b er w (.returned (.tuple #[.slice none 0 0, .bool b, .int .i64 er])) w' :=
  ⟨none, 0, rfl, Nat.le_refl _, C_nil w', h⟩
/-- The set that Perfect finds. -/
def perS (n : Nat) (o : List Nat) : Option Nat := (onL (visP n o) (mem12 (2 ^ n - 1) 0) 0 none).2
def perL (n : Int) (l : List S43) : List Nat := if ofE n l = 0 then ((perS n.toNat (townO l)).map memL).getD [] else []
def perB (n : Int) (l : List S43) : Bool := if ofE n l = 0 then (perS n.toNat (townO l)).isNone else false
theorem lpL_no {σ : Type} (vis : σ → Nat → Bool × σ) (h : ∀ st s, (vis st s).1 = false) : ∀ (l : List Nat) (s : Nat) (st : σ), (lpL vis l s st).1 = false
  | [], _, _ => rfl
  | i :: rest, s, st => by
    have h1 := lpL_no vis h rest (s ||| 2 ^ i) (vis st (s ||| 2 ^ i)).2
    have h2 := lpL_no vis h rest s (lpL vis rest (s ||| 2 ^ i) (vis st (s ||| 2 ^ i)).2).2
    simp only [lpL, h, h1, Bool.false_eq_true, if_false, h2]
theorem visP_onL (n : Nat) (o : List Nat) (l : List Nat) (s : Nat) (st : Option Nat) : (onL (visP n o) l s st).1 = false := by
  have h := lpL_no (visP n o) (fun _ _ => rfl) l s (visP n o st s).2
  have e : (visP n o st s).1 = false := rfl
  simp only [onL, e, Bool.false_eq_true, if_false, h]
theorem cf74 (args : Array Value) (w : World) : (callFunc 74 args).run Try.prog w = .ok (.enter 74 args) w := by kernel_rfl
set_option maxHeartbeats 3200000 in
set_option maxRecDepth 100000 in
theorem PerfectP_any (n : Int) (A : Option Addr) (c : Nat) (l : List S43) (w : World) (hr : Kd.C k43 w A l.length l) (hc : l.length ≤ c) :
    Calls Try.prog 37 #[.int .i64 n, .slice A l.length c] w (OutP (perL n l) (perB n l) (ofE n l) w) := by
  have hmf : ∀ (fn : Fn) (first cap : Array Value) (w : World), (Instr.makeFunc fn first cap).run Try.prog w = .ok (.func fn first cap) w := fun _ _ _ _ => rfl
  have qe : ∀ (w : World) (a : Option Addr) (n c n' c' : Nat), (binOp .eql 25 (.slice a n c) (.slice none n' c')).run Try.prog w = .ok (.bool a.isNone) w := fun w a n c n' c' => Lib.run_eql_slice_nil w _ _ a n c n' c' Try.underlying25
  have HO := Aside0.mk (of_A n A c l w hr hc)
  have HZ := Aside0.mk (ofA_size n l)
  have H1 := Aside0.mk (ofA_one n l)
  clear hr hc
  unfold perL perB
  by_cases he : ofE n l = 0
  · have ok := okt_of he
    have hA : ofA n l = tnN n.toNat (townO l) := by rw [ofA, if_pos he]
    rw [hA] at HO HZ H1
    rw [if_pos he, if_pos he]
    rw [he] at HO ⊢
    clear he hA
    generalize townO l = o at *
    generalize n.toNat = m at *
    have HK := Aside0.mk ok
    have n12 := ok.n12
    have hpn := pow12_lt m n12
    obtain ⟨R, hR⟩ : ∃ R, perS m o = R := ⟨_, rfl⟩
    have hon : onL (visP m o) (mem12 (2 ^ m - 1) 0) 0 none = (false, R) := by
      rw [← hR]; exact Prod.ext (visP_onL _ _ _ _ _) rfl
    rw [hR]
    have HON := Aside0.mk hon
    clear hR hon ok
    go_enter Try.func37, Try.ntmps37
    go_wp2_with fail
    refine HO.out.mono ?_
    rintro e w1 ⟨rfl, hb⟩
    have HB := Aside0.mk hb
    clear hb HO
    have HT : Aside0 (TnN ((w1.alloc (.cells (tnN m o) 50)).alloc (.cells #[.slice none 0 0] 25)) w1.heap.size m o) := ⟨(Blk.new _ _ _).alloc _⟩
    have HBs : Aside0 (Blk ((w1.alloc (.cells (tnN m o) 50)).alloc (.cells #[.slice none 0 0] 25)) (w1.heap.size + 1) 25 #[.slice none 0 0]) := ⟨Blk.new' (by simp)⟩
    have HB2 : Aside0 (Below w.heap.size w ((w1.alloc (.cells (tnN m o) 50)).alloc (.cells #[.slice none 0 0] 25))) := ⟨below_alloc (below_alloc HB.out _) _⟩
    go_wp2_with (first | (refine wpList_store_row rfl 50 _ _ rfl w1.heap.size (tnN m o) rfl rfl 50 (tnN 0 zero12) (heap_alloc_new w1 _) (by rw [info50, HZ.out]) (by rw [HZ.out]; rfl) H1.out ?_; rw [World.setRow_alloc_new]) | (refine wpList_load_row rfl 50 _ rfl w1.heap.size rfl 50 (tnN m o) (0, 0) _ HT.out Try.underlying50 rfl (by rw [info50, HZ.out]) ?_))
    refine (everybody_any m o _ n12).mono ?_
    rintro e w2 ⟨rfl, hb2⟩
    have V : Visit (PerfI (w1.heap.size + 1) w1.heap.size w.heap.size m o w) (some (w1.heap.size + 1)) 74 #[.pointer (some ⟨w1.heap.size + 1, 0, none⟩), .pointer (some ⟨w1.heap.size, 0, none⟩)] (visP m o) :=
      ⟨cf74, fun st w1 w2 h hg => h.keep hg, fun st s w1 hs h => perf1_any _ _ _ m o HK.out w st s w1 hs h⟩
    have hI : PerfI (w1.heap.size + 1) w1.heap.size w.heap.size m o w none w2 :=
      ⟨⟨.slice none 0 0, HBs.out.later hb2, rfl⟩, Blk.later HT.out hb2, by omega, below_then HB2.out HB2.out.size hb2, Nat.le_trans HB2.out.size hb2.size, Nat.le_trans HB.out.size (by omega)⟩
    have hcall := each_any V (2 ^ m - 1) hpn none w2 hI (fun g h => by cases h; have := hb2.size; simp at this; omega)
    rw [HON.out] at hcall
    have HCall := Aside0.mk hcall
    have HB3 := Aside0.mk (below_then HB2.out HB2.out.size hb2)
    have Hg1 : Aside0 (w.heap.size ≤ w1.heap.size + 1) := ⟨Nat.le_trans HB.out.size (by omega)⟩
    clear hcall V hI hb2 HT HBs
    go_wp2_with fail
    refine HCall.out.mono ?_
    rintro e w3 ⟨rfl, hI, hg3⟩
    obtain ⟨⟨v, hb3, hv⟩, _⟩ := hI
    have HB4 := Aside0.mk (HB3.out.grown hg3 HB3.out.size (fun k hk => by cases hk; exact Hg1.out))
    have HB5 := Aside0.mk (hb3)
    clear hg3 HCall hb3
    cases R with
    | none =>
      have hv' : v = .slice none 0 0 := hv
      subst hv'
      have cb : w3.cell? ⟨w1.heap.size + 1, 0, none⟩ = some (.slice none 0 0) := HB5.out.cell 0
      clear hv
      go_wp2_with fail
      go_quiet (fail)
      go_wp2_with fail
      go_ret3
      exact outP_nil _ _ _ _ (pw_below_drewN HB4.out _)
    | some b =>
      obtain ⟨h12, h0, hrb⟩ := hv
      have hbl := memL_pos h12 (by omega)
      obtain ⟨Ab, cb, rfl, hlcb, hCb⟩ := Kd.R_reads hrb
      obtain ⟨ab, rfl⟩ := C_some hCb (by rw [ints_length]; exact hbl)
      have hil : (ints (memL b)).length = (memL b).length := ints_length _
      rw [hil] at HB5 hlcb hCb
      have HC := Aside0.mk hCb
      have cb1 : w3.cell? ⟨w1.heap.size + 1, 0, none⟩ = some (.slice (some ab) (memL b).length cb) := HB5.out.cell 0
      clear hrb hCb hil hbl
      go_wp2_with fail
      go_quiet (fail)
      go_wp2_with fail
      go_ret3
      exact ⟨some ab, cb, rfl, hlcb, Kd.C_below HC.out (pw_below_drewN (Below.refl _ _) _), pw_below_drewN HB4.out _⟩
  · rw [if_neg he, if_neg he]
    have hb : (ofE n l != 0) = true := bne_iff_ne.2 he
    have hb' : (ofE n l == 0) = false := beq_eq_false_iff_ne.2 he
    clear he
    generalize ofE n l = er at *
    go_enter Try.func37, Try.ntmps37
    go_wp2_with fail
    refine HO.out.mono ?_
    rintro e w1 ⟨rfl, hb⟩
    have HB := Aside0.mk hb
    clear hb HO
    go_wp2_with (refine wpList_store_row rfl 50 _ _ rfl w1.heap.size (ofA n l) rfl rfl 50 (tnN 0 zero12) (heap_alloc_new w1 _) (by rw [info50, HZ.out]) (by rw [HZ.out]; rfl) H1.out ?_)
    go_ret3
    exact outP_nil _ _ _ _ (by rw [World.setRow_alloc_new]; exact below_alloc HB.out _)
end Go.Proofs.Ytmobefgnkiboaaa.Im

namespace Go.Proofs.Ytmobefgnkiboaaa.Im
open Go.RowKit Go.Proofs.YtmobefgnkiboaaaW.PrintWords Go.Proofs.YtmobefgnkiboaaaW.PrintLast Go.Proofs.YtmobefgnkiboaaaW.PrintMore
set_option linter.unusedVariables false
/-- All sets that contain a set and some of a list, in the order of 'each'; without the set itself. -/
def ordL : List Nat → Nat → List Nat
  | [], _ => []
  | i :: rest, s => (s ||| 2 ^ i) :: (ordL rest (s ||| 2 ^ i) ++ ordL rest s)
theorem lpL_fold {σ : Type} (vis : σ → Nat → Bool × σ) (h : ∀ st s, (vis st s).1 = false) : ∀ (l : List Nat) (s : Nat) (st : σ), (lpL vis l s st).2 = (ordL l s).foldl (fun st s => (vis st s).2) st
  | [], _, _ => rfl
  | i :: rest, s, st => by
    have h1 := lpL_no vis h rest (s ||| 2 ^ i) (vis st (s ||| 2 ^ i)).2
    have h2 := lpL_fold vis h rest (s ||| 2 ^ i) (vis st (s ||| 2 ^ i)).2
    have h3 := lpL_fold vis h rest s (lpL vis rest (s ||| 2 ^ i) (vis st (s ||| 2 ^ i)).2).2
    have e : (lpL vis (i :: rest) s st) = lpL vis rest s (lpL vis rest (s ||| 2 ^ i) (vis st (s ||| 2 ^ i)).2).2 := by
      simp only [lpL, h, h1, Bool.false_eq_true, if_false]
    rw [e, h3, h2]
    show _ = List.foldl _ ((vis st (s ||| 2 ^ i)).2) (ordL rest (s ||| 2 ^ i) ++ ordL rest s)
    rw [List.foldl_append]
theorem perS_fold (n : Nat) (o : List Nat) : perS n o = (0 :: ordL (mem12 (2 ^ n - 1) 0) 0).foldl (stepP n o) none := by
  unfold perS
  have e : onL (visP n o) (mem12 (2 ^ n - 1) 0) 0 none = lpL (visP n o) (mem12 (2 ^ n - 1) 0) 0 (stepP n o none 0) := by
    simp only [onL, visP, Bool.false_eq_true, if_false]
  rw [e, lpL_fold (visP n o) (fun _ _ => rfl)]
  rfl
theorem lpF_ord (has : Nat → Bool) : ∀ (l : List Nat) (s : Nat), lpF has l s = (ordL l s).find? has
  | [], _ => rfl
  | i :: rest, s => by
    rw [lpF, ordL, List.find?_cons, List.find?_append, lpF_ord has rest (s ||| 2 ^ i), lpF_ord has rest s]
    cases h : has (s ||| 2 ^ i)
    · simp only [Bool.false_eq_true, if_false]
      cases (ordL rest (s ||| 2 ^ i)).find? has <;> rfl
    · simp
theorem firstS_ord (has : Nat → Bool) (n : Nat) : firstS has n = (0 :: ordL (mem12 (2 ^ n - 1) 0) 0).find? has := by
  unfold firstS onF
  rw [List.find?_cons, lpF_ord]
  cases has 0 <;> rfl
/-- The first of the least. -/
theorem fold_least (bad : Nat → Bool) (f : Nat → Nat) (step : Option Nat → Nat → Option Nat) (h0 : ∀ p, step none p = if bad p then some p else none)
    (h1 : ∀ b p, step (some b) p = if decide (f p < f b) && bad p then some p else some b) : ∀ (R P : List Nat) (st : Option Nat),
    ((st = none ∧ ∀ x ∈ P, bad x = false) ∨ ∃ b, st = some b ∧ P.find? (fun x => bad x && f x == f b) = some b ∧ ∀ x ∈ P, bad x = true → f b ≤ f x) →
    ((R.foldl step st = none ∧ ∀ x ∈ P ++ R, bad x = false) ∨ ∃ b, R.foldl step st = some b ∧ (P ++ R).find? (fun x => bad x && f x == f b) = some b ∧ ∀ x ∈ P ++ R, bad x = true → f b ≤ f x)
  | [], P, st, h => by rw [List.append_nil]; exact h
  | p :: R, P, st, h => by
    have e : P ++ p :: R = (P ++ [p]) ++ R := by simp
    rw [e, List.foldl_cons]
    refine fold_least bad f step h0 h1 R (P ++ [p]) (step st p) ?_
    rcases h with ⟨rfl, hn⟩ | ⟨b, rfl, hb, hm⟩
    · rw [h0]
      cases hp : bad p with
      | false =>
        refine .inl ⟨by simp, fun x hx => ?_⟩
        rcases List.mem_append.1 hx with hx | hx
        · exact hn x hx
        · rw [List.mem_singleton.1 hx]; exact hp
      | true =>
        refine .inr ⟨p, by simp, ?_, fun x hx hb => ?_⟩
        · rw [List.find?_append, List.find?_eq_none.2 (fun x hx => by rw [hn x hx]; simp)]
          simp [hp]
        · rcases List.mem_append.1 hx with hx | hx
          · rw [hn x hx] at hb; cases hb
          · rw [List.mem_singleton.1 hx]; exact Nat.le_refl _
    · rw [h1]
      by_cases hc : f p < f b ∧ bad p = true
      · obtain ⟨hc1, hc2⟩ := hc
        rw [if_pos (by rw [decide_eq_true hc1, hc2]; rfl)]
        refine .inr ⟨p, rfl, ?_, fun x hx hbx => ?_⟩
        · rw [List.find?_append, List.find?_eq_none.2 (fun x hx => ?_)]
          · simp [hc2]
          · intro h
            rw [Bool.and_eq_true, beq_iff_eq] at h
            have := hm x hx h.1
            omega
        · rcases List.mem_append.1 hx with hx | hx
          · have := hm x hx hbx; omega
          · rw [List.mem_singleton.1 hx]; exact Nat.le_refl _
      · rw [if_neg (by rw [Bool.and_eq_true, decide_eq_true_eq]; exact hc)]
        refine .inr ⟨b, rfl, ?_, fun x hx hbx => ?_⟩
        · rw [List.find?_append, hb]; rfl
        · rcases List.mem_append.1 hx with hx | hx
          · exact hm x hx hbx
          · rw [List.mem_singleton.1 hx] at hbx ⊢
            rcases Nat.lt_or_ge (f p) (f b) with h | h
            · exact absurd ⟨h, hbx⟩ hc
            · exact h
theorem mem_ord {n : Nat} (hn : n ≤ 12) {u : Nat} (hu : u < 2 ^ n) : u ∈ 0 :: ordL (mem12 (2 ^ n - 1) 0) 0 := by
  by_cases h0 : u = 0
  · rw [h0]; exact List.mem_cons_self
  · have h := firstS_ord (fun x => x == u) n
    have hs := firstS_spec (fun x => x == u) n hn (beq_eq_false_iff_ne.2 (fun e => h0 e.symm))
    cases hf : firstS (fun x => x == u) n with
    | none => have := hs.2 hf u hu; simp at this
    | some t =>
      rw [hf] at h
      have h1 := List.mem_of_find?_eq_some h.symm
      have h2 := List.find?_some h.symm
      rw [beq_iff_eq] at h2
      rw [← h2]; exact h1
def szN (p : Nat) : Nat := (memL p).length
theorem badP_zero (n : Nat) (o : List Nat) : badP n o 0 = false := rfl
theorem perS_spec (n : Nat) (o : List Nat) (hn : n ≤ 12) :
    (perS n o = none ∧ ∀ x, x < 2 ^ n → badP n o x = false) ∨ ∃ b, perS n o = some b ∧ firstS (fun x => badP n o x && szN x == szN b) n = some b ∧ ∀ x, x < 2 ^ n → badP n o x = true → szN b ≤ szN x := by
  have h := fold_least (badP n o) szN (stepP n o) (fun p => rfl) (fun b p => rfl) (0 :: ordL (mem12 (2 ^ n - 1) 0) 0) [] none (.inl ⟨rfl, fun x hx => by cases hx⟩)
  rw [List.nil_append, ← perS_fold] at h
  rcases h with ⟨h1, h2⟩ | ⟨b, h1, h2, h3⟩
  · exact .inl ⟨h1, fun x hx => h2 x (mem_ord hn hx)⟩
  · exact .inr ⟨b, h1, by rw [firstS_ord]; exact h2, fun x hx => h3 x (mem_ord hn hx)⟩
theorem onF_none {has : Nat → Bool} {p : Nat} (hp : p < 4096) : onF has (mem12 p 0) 0 = none ↔ ∀ s, s &&& p = s → has s = false := by
  have hsp := lpF_spec has (memL p) [] 0 (by decide) memL_zero (memL_sorted _) (fun y hy => memL_lt hy) (fun x hx => by cases hx)
  have e : onF has (mem12 p 0) 0 = if has 0 then some 0 else lpF has (memL p) 0 := rfl
  have sub : ∀ s, s &&& p = s ↔ ∀ i, s.testBit i = true → p.testBit i = true := fun s => by
    constructor
    · intro h i hi
      rw [← h, Nat.testBit_and, Bool.and_eq_true] at hi
      exact hi.2
    · intro h
      apply Nat.eq_of_testBit_eq
      intro i
      rw [Nat.testBit_and]
      cases hs : s.testBit i with
      | false => rfl
      | true => rw [h i hs]; rfl
  rw [e]
  constructor
  · intro h s hs
    have hs12 : s < 4096 := by rw [← hs]; exact Nat.lt_of_le_of_lt Nat.and_le_right hp
    cases h0 : has 0 with
    | true => rw [h0] at h; cases h
    | false =>
      rw [h0, if_neg (by simp)] at h
      by_cases hz : s = 0
      · rw [hz]; exact h0
      · refine hsp.2 h (memL s) (memL_sorted s) (fun x hx => ?_) (fun hn => hz (memL_nil hs12 hn)) s hs12 (by simp)
        rw [memL_mem] at hx ⊢
        exact ⟨hx.1, (sub s).1 hs x hx.2⟩
  · intro h
    have h0 := h 0 (Nat.zero_and p)
    rw [h0, if_neg (by simp)]
    cases hf : lpF has (memL p) 0 with
    | none => rfl
    | some t =>
      obtain ⟨q1, q2, T, q3, q4, q5, q6, q7⟩ := hsp.1 t hf
      rw [List.nil_append] at q6
      have : t &&& p = t := (sub t).2 fun i hi => by
        rcases Nat.lt_or_ge i 12 with h1 | h1
        · have := q4 i (by rw [← q6]; exact (memL_mem t i).2 ⟨h1, hi⟩)
          exact ((memL_mem p i).1 this).2
        · rw [Nat.testBit_lt_two_pow (Nat.lt_of_lt_of_le q1 (Nat.pow_le_pow_right (by decide) h1 : 2 ^ 12 ≤ 2 ^ i))] at hi; cases hi
      rw [h t this] at q2; cases q2
theorem ker_within {n : Nat} {o : List Nat} (ok : Okt n o) {p s : Nat} (hs : s &&& p = s) : kerB n (witO n o p) s p = kerB n o s p := by
  have n12 := ok.n12
  unfold kerB AllB
  rw [Bool.eq_iff_iff, List.all_eq_true, List.all_eq_true]
  have key : ∀ a, a < n → (indB (witO n o p) s a && absB (witO n o p) s p a) = (indB o s a && absB o s p a) := fun a ha => by
    have hw : (witO n o p).getD a 0 = witN o p a := by unfold witO; rw [turnF_get _ _ _ _ (by omega), if_pos ha]
    unfold indB absB
    rw [hw]
    unfold witN
    cases hp : p.testBit a with
    | true => rw [if_pos rfl, Nat.and_assoc, Nat.and_comm p s, hs]
    | false =>
      have hsa : s.testBit a = false := by
        cases h : s.testBit a with
        | false => rfl
        | true => rw [← hs, Nat.testBit_and, hp, Bool.and_false] at h; cases h
      rw [hsa]; simp
  constructor
  · intro h a ha; rw [← key a (List.mem_range.1 ha)]; exact h a ha
  · intro h a ha; rw [key a (List.mem_range.1 ha)]; exact h a ha
theorem ker_self {n : Nat} (p : Nat) : kerB n zero12 p p = true := by
  unfold kerB AllB
  rw [List.all_eq_true]
  intro a _
  have hz : zero12.getD a 0 = 0 := by
    rcases Nat.lt_or_ge a 12 with h | h
    · have : a = 0 ∨ a = 1 ∨ a = 2 ∨ a = 3 ∨ a = 4 ∨ a = 5 ∨ a = 6 ∨ a = 7 ∨ a = 8 ∨ a = 9 ∨ a = 10 ∨ a = 11 := by omega
      rcases this with rfl | rfl | rfl | rfl | rfl | rfl | rfl | rfl | rfl | rfl | rfl | rfl <;> rfl
    · exact getD12 rfl (by omega)
  unfold indB absB
  rw [hz]
  cases p.testBit a <;> simp
theorem badP_iff {n : Nat} {o : List Nat} (ok : Okt n o) {p : Nat} (hp : p < 4096) : badP n o p = (p != 0 && (kernL n o p).isEmpty) := by
  have hwok := witO_okt ok p
  have hK : hasK n (witO n o p) p = false ↔ kernL n o p = [] := by
    unfold hasK
    have e : (onF (fun s => kerB n (witO n o p) s p) (mem12 p 0) 0).isSome = false ↔ onF (fun s => kerB n (witO n o p) s p) (mem12 p 0) 0 = none := by
      cases onF (fun s => kerB n (witO n o p) s p) (mem12 p 0) 0 <;> simp
    rw [e, onF_none hp]
    unfold kernL
    rw [List.filter_eq_nil_iff]
    constructor
    · intro h x _ hx
      unfold inK at hx
      rw [Bool.and_eq_true, beq_iff_eq] at hx
      have := h x hx.1
      rw [ker_within ok hx.1, hx.2] at this; cases this
    · intro h s hs
      rw [ker_within ok hs]
      cases hb : kerB n o s p with
      | false => rfl
      | true =>
        have hle : s ≤ p := by rw [← hs]; exact Nat.and_le_right
        refine absurd ?_ (h s (by rw [List.mem_range'_1]; omega))
        unfold inK
        rw [hs, hb]; simp
  unfold badP
  congr 1
  have hE : eqB (witO n o p) zero12 = true → hasK n (witO n o p) p = true := fun h => by
    have he := (eqB_iff hwok.len rfl).1 h
    rw [he]
    unfold hasK
    cases hf : onF (fun s => kerB n zero12 s p) (mem12 p 0) 0 with
    | some t => rfl
    | none =>
      have := (onF_none hp).1 hf p (Nat.and_self p)
      rw [ker_self] at this; cases this
  have hL : (kernL n o p).isEmpty = !hasK n (witO n o p) p := by
    rw [Bool.eq_iff_iff, List.isEmpty_iff, ← hK]; simp
  rw [hL]
  cases h1 : eqB (witO n o p) zero12 with
  | false => rfl
  | true => rw [hE h1]; rfl
end Go.Proofs.Ytmobefgnkiboaaa.Im

namespace Go.Proofs.Ytmobefgnkiboaaa.Im
open Go.RowKit Go.Proofs.YtmobefgnkiboaaaW.PrintWords Go.Proofs.YtmobefgnkiboaaaW.PrintLast Go.Proofs.YtmobefgnkiboaaaW.PrintMore
set_option linter.unusedVariables false
def okT (o T : List Nat) (a b p : Nat) : Prop := (o.getD a 0).testBit b = true → T.getD (2 * b + (1 - p)) 0 ≤ T.getD (2 * a + p) 0 + 1
/-- The table in a block: two cells for each person. -/
def Tb (w : World) (g : Nat) (T : List Nat) : Prop := ∃ ex : List Value, Blk w g 69 (nums .i64 (ints T) ++ ex).toArray
theorem Tb.cell {w : World} {g : Nat} {T : List Nat} (h : Tb w g T) (i : Nat) (hi : i < T.length) : w.cell? ⟨g, i, none⟩ = some (.int .i64 (T.getD i 0 : Nat)) := by
  obtain ⟨ex, hb⟩ := h
  rw [hb.cell]
  have hl : (nums .i64 (ints T)).length = T.length := by rw [nums_length, ints_length]
  rw [List.getElem?_toArray, List.getElem?_append_left (by omega)]
  simp [nums, ints, hi]
theorem Tb.frozen {w : World} {g : Nat} {T : List Nat} (h : Tb w g T) (i : Nat) : w.frozen? ⟨g, i, none⟩ = false := by
  obtain ⟨ex, hb⟩ := h
  exact hb.frozen i
theorem Tb.set_ {w : World} {g : Nat} {T : List Nat} (h : Tb w g T) (i v : Nat) (hi : i < T.length) : Tb (w.setCell ⟨g, i, none⟩ (.int .i64 (v : Nat))) g (T.set i v) := by
  obtain ⟨ex, hb⟩ := h
  refine ⟨ex, ?_⟩
  have := Blk.set_ hb i (.int .i64 (v : Nat))
  have hl : (nums .i64 (ints T)).length = T.length := by rw [nums_length, ints_length]
  have e : ((nums .i64 (ints T) ++ ex).toArray).setIfInBounds i (.int .i64 (v : Nat)) = (nums .i64 (ints (T.set i v)) ++ ex).toArray := by
    rw [List.setIfInBounds_toArray, List.set_append_left _ _ (by omega)]
    simp [nums, ints, List.map_set]
  rw [e] at this
  exact this
theorem Tb.later {w w' : World} {g : Nat} {T : List Nat} (h : Tb w g T) (hb : Below w.heap.size w w') : Tb w' g T := by
  obtain ⟨ex, h⟩ := h
  exact ⟨ex, h.later hb⟩
theorem Tb.lt {w : World} {g : Nat} {T : List Nat} (h : Tb w g T) : g < w.heap.size := by
  obtain ⟨ex, h⟩ := h
  exact h.lt
end Go.Proofs.Ytmobefgnkiboaaa.Im

namespace Go.Proofs.Ytmobefgnkiboaaa.Im
open Go.RowKit Go.Proofs.YtmobefgnkiboaaaW.PrintWords Go.Proofs.YtmobefgnkiboaaaW.PrintLast Go.Proofs.YtmobefgnkiboaaaW.PrintMore
set_option linter.unusedVariables false
/-- What a part of a round has done: something got shorter, or nothing can. -/
def Rnd (o : List Nat) (n : Nat) (T T' : List Nat) (ag : Bool) (done : Nat → Nat → Nat → Prop) : Prop :=
  if ag then T'.sum < T.sum else T' = T ∧ ∀ a b p, a < n → b < n → p < 2 → done a b p → okT o T a b p
theorem Rnd.same {o : List Nat} {n : Nat} {T T' : List Nat} {d : Nat → Nat → Nat → Prop} (h : Rnd o n T T' false d) : T' = T := h.1
end Go.Proofs.Ytmobefgnkiboaaa.Im

namespace Go.Proofs.Ytmobefgnkiboaaa.Im
open Go.RowKit Go.Proofs.YtmobefgnkiboaaaW.PrintWords Go.Proofs.YtmobefgnkiboaaaW.PrintLast Go.Proofs.YtmobefgnkiboaaaW.PrintMore
set_option linter.unusedVariables false
def oddO (n : Int) (l : List S43) : Option (List Nat) := oddS n.toNat (townO l)
theorem progOdd_any (n : Int) (A : Option Addr) (c : Nat) (l : List S43) (w : World) (hr : Kd.C k43 w A l.length l) (hc : l.length ≤ c) :
    Calls Try.prog 28 #[.int .i64 n, .slice A l.length c] w (OutO (listF n l (oddO n l)) (errF n l (oddO n l)) w) :=
  (Odd_any n A c l w hr hc).mono fun e w' h => outO_of h
def NoB (o : List Nat) (z last d b : Nat) : Prop := ∀ j, j < b → ((o.getD last 0).testBit j && dF o j z (d % 2) == d) = false
theorem NoB.succ {o : List Nat} {z last d b : Nat} (h : NoB o z last d b) (h1 : ((o.getD last 0).testBit b && dF o b z (d % 2) == d) = false) : NoB o z last d (b + 1) := fun j hj => by
  rcases Nat.lt_or_ge j b with hlt | hge
  · exact h j hlt
  · obtain rfl : j = b := by omega
    exact h1
end Go.Proofs.Ytmobefgnkiboaaa.Im

namespace Go.Proofs.Ytmobefgnkiboaaa.Im
open Go.RowKit Go.Proofs.YtmobefgnkiboaaaW.PrintWords Go.Proofs.YtmobefgnkiboaaaW.PrintLast Go.Proofs.YtmobefgnkiboaaaW.PrintMore
set_option linter.unusedVariables false
theorem bestS_some {S : List Nat} (h : S ≠ []) : ∃ t, bestS S = some t := by
  cases hb : bestS S with
  | some t => exact ⟨t, rfl⟩
  | none => exact absurd ((best_spec S none).2 hb).1 h
theorem kerO_some {n : Int} {l : List S43} (he : ofE n l = 0) (h : kernL n.toNat (townO l) (2 ^ n.toNat - 1) ≠ []) : ∃ r, kerO n l = some r := by
  obtain ⟨t, ht⟩ := bestS_some h
  exact ⟨memL t, by rw [kerO_eq he, ht]; rfl⟩
theorem many_pos {n : Int} {l : List S43} (he : ofE n l = 0) : 0 < manyK n.toNat (townO l) (2 ^ n.toNat) ↔ (kerO n l).isSome = true := by
  rw [manyK_eq, List.length_pos_iff]
  constructor
  · intro h
    obtain ⟨r, hr⟩ := kerO_some he h
    rw [hr]; rfl
  · intro h hn
    rw [kerO_eq he, hn] at h
    cases h
/-- An ascending list is the list of the members of its set. -/
theorem asc_mem {n : Nat} (hn : n ≤ 12) {st : List Int} (h : AscTo n st st.length) : st = ints (memL (setOf st)) := by
  have key : ∀ j, j < st.length → 0 ≤ rd st j ∧ rd st j < n ∧ (0 < j → rd st ((j : Int) - 1) < rd st j) := fun j hj => h j hj
  obtain ⟨Z, rfl⟩ : ∃ Z : List Nat, st = ints Z := by
    refine ⟨st.map Int.toNat, ?_⟩
    unfold ints
    rw [List.map_map]
    refine (List.ext_getElem (by simp) fun i h1 h2 => ?_).symm
    have := (key i (by simpa using h2)).1
    have e : rd st i = st[i]'(by simpa using h2) := by
      have h3 : i < st.length := by simpa using h2
      simp [rd, h3]
    rw [e] at this
    simp
    omega
  congr 1
  have hlen := ints_length Z
  have hrd : ∀ j, j < Z.length → rd (ints Z) (j : Int) = ((Z.getD j 0 : Nat) : Int) := fun j _ => rd_ints Z j
  refine sorted_ext ?_ (memL_sorted _) (fun x => ?_)
  · -- ascending
    have step : ∀ j, j + 1 < Z.length → Z.getD j 0 < Z.getD (j + 1) 0 := fun j hj => by
      have := (key (j + 1) (by omega)).2.2 (by omega)
      rw [show (((j + 1 : Nat) : Int) - 1) = (j : Int) by omega, hrd j (by omega), hrd (j + 1) hj] at this
      omega
    have lt : ∀ d i, i + d + 1 < Z.length → Z.getD i 0 < Z.getD (i + d + 1) 0 := by
      intro d
      induction d with
      | zero => intro i hi; exact step i hi
      | succ d ih => intro i hi; exact Nat.lt_trans (ih i (by omega)) (step (i + d + 1) hi)
    rw [List.pairwise_iff_getElem]
    intro i j hi hj hij
    have := lt (j - i - 1) i (by omega)
    rw [show i + (j - i - 1) + 1 = j by omega] at this
    simpa [List.getD_eq_getElem?_getD, hi, hj] using this
  · rw [memL_mem, setOf_bit, decide_eq_true_eq]
    constructor
    · intro hx
      refine ⟨?_, hx⟩
      obtain ⟨i, hi, rfl⟩ := List.getElem_of_mem hx
      have := (key i (by omega)).2.1
      rw [hrd i hi] at this
      have e : Z.getD i 0 = Z[i] := by simp [List.getD_eq_getElem?_getD, hi]
      omega
    · exact fun h => h.2
theorem is_kernel {n : Int} {l : List S43} (he : ofE n l = 0) {st : List Int} (h : isB n.toNat (townO l) st = true) : ∃ r, kerO n l = some r ∧ lessB st (ints r) = false := by
  have ok := okt_of he
  unfold isB at h
  rw [Bool.and_eq_true, decide_eq_true_eq] at h
  have hlt := setOf_lt n.toNat st st.length (Nat.le_refl _) h.1
  rw [List.take_length] at hlt
  obtain ⟨p1, p2⟩ := firstS_spec (fun s => kerB n.toNat (townO l) s (2 ^ n.toNat - 1)) n.toNat ok.n12 (kerB_zero _ ok.n1)
  cases hf : firstS (fun s => kerB n.toNat (townO l) s (2 ^ n.toNat - 1)) n.toNat with
  | none => have := p2 hf _ hlt; rw [h.2] at this; cases this
  | some t =>
    refine ⟨memL t, by unfold kerO; rw [hf]; rfl, ?_⟩
    have := (p1 t hf).2.2 _ hlt h.2
    rwa [← asc_mem ok.n12 h.1] at this
theorem isB_found {n : Int} {l : List S43} (he : ofE n l = 0) {r : List Nat} (h : kerO n l = some r) : isB n.toNat (townO l) (ints r) = true := by
  have ok := okt_of he
  unfold kerO at h
  rw [Option.map_eq_some_iff] at h
  obtain ⟨t, ht, rfl⟩ := h
  obtain ⟨h1, h2, _⟩ := (firstS_spec (fun s => kerB n.toNat (townO l) s (2 ^ n.toNat - 1)) n.toNat ok.n12 (kerB_zero _ ok.n1)).1 t ht
  unfold isB
  rw [setOf_memL ok.n12 h1, h2, Bool.and_true, decide_eq_true_eq]
  exact asc_of (memL_sorted t) (fun x hx => mem_lt h1 hx)
theorem odd_none {n : Int} {l : List S43} (he : ofE n l = 0) (h : oddO n l = none) : ∀ v, v < n.toNat → dF (townO l) v v 1 = 99 := by
  have ok := okt_of he
  unfold oddO at h
  rw [oddS_eq ok] at h
  unfold oddR at h
  obtain ⟨h1, h2, _⟩ := bestF_spec (townO l) n.toNat
  split at h
  · intro v hv
    have := h2 v hv
    have := (dF_spec (townO l) v v 1).1
    omega
  · cases h
theorem rich_ker {n : Int} {l : List S43} (he : ofE n l = 0) (h : oddO n l = none) : ∃ r, kerO n l = some r := by
  have ok := okt_of he
  have h2 := Nat.two_pow_pos n.toNat
  exact kerO_some he (rich_within ok (odd_none he h) (by omega))
theorem rich_per {n : Int} {l : List S43} (he : ofE n l = 0) (h : oddO n l = none) : perS n.toNat (townO l) = none := by
  have ok := okt_of he
  have h12 : (2 : Nat) ^ n.toNat ≤ 2 ^ 12 := Nat.pow_le_pow_right (by decide) ok.n12
  rcases perS_spec n.toNat (townO l) ok.n12 with h1 | ⟨b, h1, h2, _⟩
  · exact h1.1
  · exfalso
    obtain ⟨h3, h4, _⟩ := (firstS_spec (fun x => badP n.toNat (townO l) x && szN x == szN b) n.toNat ok.n12 (by rw [badP_zero]; rfl)).1 b h2
    rw [Bool.and_eq_true, badP_iff ok (by omega), Bool.and_eq_true, List.isEmpty_iff] at h4
    exact rich_within ok (odd_none he h) h3 h4.1.2
theorem per_ker {n : Int} {l : List S43} (he : ofE n l = 0) (h : perS n.toNat (townO l) = none) : ∃ r, kerO n l = some r := by
  have ok := okt_of he
  have h12 : (2 : Nat) ^ n.toNat ≤ 2 ^ 12 := Nat.pow_le_pow_right (by decide) ok.n12
  have h2 := Nat.two_pow_pos n.toNat
  have h1 : 1 < 2 ^ n.toNat := Nat.one_lt_two_pow (by have := ok.n1; omega)
  refine kerO_some he fun hn => ?_
  rcases perS_spec n.toNat (townO l) ok.n12 with h3 | ⟨b, h3, _⟩
  · have := h3.2 (2 ^ n.toNat - 1) (by omega)
    rw [badP_iff ok (by omega), hn] at this
    simp at this
    omega
  · rw [h] at h3; cases h3
theorem per_pos {n : Int} {l : List S43} (he : ofE n l = 0) {b : Nat} (h : perS n.toNat (townO l) = some b) : 0 < (memL b).length := by
  have ok := okt_of he
  have h12 : (2 : Nat) ^ n.toNat ≤ 2 ^ 12 := Nat.pow_le_pow_right (by decide) ok.n12
  rcases perS_spec n.toNat (townO l) ok.n12 with h1 | ⟨b', h1, h2, _⟩
  · rw [h1.1] at h; cases h
  · rw [h1] at h
    cases h
    obtain ⟨h3, h4, _⟩ := (firstS_spec (fun x => badP n.toNat (townO l) x && szN x == szN b) n.toNat ok.n12 (by rw [badP_zero]; rfl)).1 b h2
    rw [Bool.and_eq_true] at h4
    refine memL_pos (by omega) ?_
    rcases Nat.eq_zero_or_pos b with h0 | h0
    · rw [h0, badP_zero] at h4; simp at h4
    · exact h0
def Chn (o L : List Nat) : Prop := ∀ i, i + 1 < L.length → arcO o (L.getD i 0) (L.getD (i + 1) 0)
theorem Chn.snoc {o L : List Nat} {j last : Nat} (h : Chn o L) (hl : L.getLastD 0 = last) (hne : L ≠ []) (hj : arcO o last j) : Chn o (L ++ [j]) := by
  intro i hi
  rw [List.length_append, List.length_singleton] at hi
  have g : ∀ q, q < L.length → (L ++ [j]).getD q 0 = L.getD q 0 := fun q hq => by
    rw [List.getD_eq_getElem?_getD, List.getElem?_append_left hq, ← List.getD_eq_getElem?_getD]
  rcases Nat.lt_or_ge (i + 1) L.length with h1 | h1
  · rw [g i (by omega), g (i + 1) h1]; exact h i h1
  · have e : i + 1 = L.length := by omega
    have e2 : (L ++ [j]).getD (i + 1) 0 = j := by
      rw [e, List.getD_eq_getElem?_getD, List.getElem?_append_right (Nat.le_refl _)]; simp
    have e3 : L.getD i 0 = last := by
      rw [← hl, List.getLastD_eq_getLast?, List.getLast?_eq_getElem?, ← e, List.getD_eq_getElem?_getD]
      rfl
    rw [g i (by omega), e2, e3]; exact hj
theorem gr_chain (o : List Nat) (z : Nat) : ∀ (d : Nat) (way : List Nat) (last : Nat), way ≠ [] → way.getLastD 0 = last → Chn o way → wkB o (d + 1) last z = true →
    Chn o (way ++ grF o z d last) ∧ arcO o ((way ++ grF o z d last).getLastD 0) z
  | 0, way, last, hne, hl, hc, hw => by
    simp only [grF, List.append_nil]
    refine ⟨hc, ?_⟩
    rw [hl]
    obtain ⟨c, hc, h1⟩ := (wk_succ _ _ _ _).1 hw
    have e : c = z := by simpa [wkB] using h1
    rw [← e]; exact ((memL_mem _ _).1 hc).2
  | d + 1, way, last, hne, hl, hc, hw => by
    have e : wkB o (d + 1 + 1) last z = ((memL (o.getD last 0)).find? fun j => wkB o (d + 1) j z).isSome := any_find _ _
    rw [e] at hw
    have eg : grF o z (d + 1) last = match (memL (o.getD last 0)).find? fun c => wkB o (d + 1) c z with
      | some c => c :: grF o z d c
      | none => [] := rfl
    rw [eg]
    cases hf : (memL (o.getD last 0)).find? fun j => wkB o (d + 1) j z with
    | none => rw [hf] at hw; cases hw
    | some c =>
      have hcm := List.mem_of_find?_eq_some hf
      have hp : wkB o (d + 1) c z = true := List.find?_some (p := fun j => wkB o (d + 1) j z) hf
      have := gr_chain o z d (way ++ [c]) c (by simp) (by simp) (hc.snoc hl hne ((memL_mem _ _).1 hcm).2) hp
      rw [List.append_assoc] at this
      exact this
/-- What is found is an odd cycle. -/
structure OddC (n : Nat) (o L : List Nat) : Prop where
  odd : L.length % 2 = 1
  len : L.length < 99
  lt : ∀ i, i < L.length → L.getD i 0 < n
  arc : ∀ i, i < L.length → arcO o (L.getD i 0) (L.getD ((i + 1) % L.length) 0)
theorem odd_cycle {n : Int} {l : List S43} (he : ofE n l = 0) {L : List Nat} (h : oddO n l = some L) : OddC n.toNat (townO l) L := by
  have ok := okt_of he
  unfold oddO at h
  rw [oddS_eq ok] at h
  unfold oddR at h
  obtain ⟨h1, h2, h3⟩ := bestF_spec (townO l) n.toNat
  split at h
  · cases h
  · rename_i hne
    rcases h3 with ⟨h3, _⟩ | ⟨h3, h4, h5, h6⟩
    · exact absurd h3 hne
    · generalize (bestF (townO l) n.toNat).1 = b at *
      generalize (bestF (townO l) n.toNat).2 = z at *
      cases h
      obtain ⟨hb1, hw⟩ := dF_wk h5 h4
      have hmin : ∀ m v, v < n.toNat → m % 2 = 1 → m < b → wkB (townO l) m v v = false := fun m v hv hm hlt => dF_no hm (by have := h2 v hv; omega)
      have e1 : b - 1 + 1 = b := by omega
      obtain ⟨g1, g2, g3⟩ := gr_nodup ok hb1 hmin (b - 1) [z] z (by simp; omega) (Wy.one _ h3) (by rw [e1]; exact hw)
      obtain ⟨k1, k2⟩ := gr_chain (townO l) z (b - 1) [z] z (by simp) rfl (fun i hi => by simp at hi) (by rw [e1]; exact hw)
      have eL : [z] ++ grF (townO l) z (b - 1) z = z :: grF (townO l) z (b - 1) z := rfl
      rw [eL] at g2 g3 k1 k2
      refine ⟨by rw [g3]; exact hb1, by rw [g3]; exact h5, fun i hi => ?_, fun i hi => ?_⟩
      · refine g2 _ ?_
        rw [List.getD_eq_getElem?_getD, List.getElem?_eq_getElem hi]
        exact List.getElem_mem hi
      · rcases Nat.lt_or_ge (i + 1) (z :: grF (townO l) z (b - 1) z).length with h7 | h7
        · rw [Nat.mod_eq_of_lt h7]; exact k1 i h7
        · have e : i + 1 = (z :: grF (townO l) z (b - 1) z).length := by omega
          rw [e, Nat.mod_self]
          have e3 : (z :: grF (townO l) z (b - 1) z).getLastD 0 = (z :: grF (townO l) z (b - 1) z).getD i 0 := by
            rw [List.getLastD_eq_getLast?, List.getLast?_eq_getElem?, ← e, List.getD_eq_getElem?_getD]
            rfl
          rw [e3] at k2
          exact k2
theorem Arc_l0 (l : List S43) (a b : Int) (hl : l.length ≤ 150) : ∀ (d i : Nat), i + d = l.length → Gives (fun k => pomaderef02_Arc.l0 k l a b i) ((l.drop i).any fun p => p.f0 == a && p.f1 == b)
  | 0, i, h => Gives.now fun k => by
    simp only [pomaderef02_Arc.l0]
    rw [if_neg (by omega), List.drop_eq_nil_of_le (by omega)]
    rfl
  | d + 1, i, h => by
    have hi : i < l.length := by omega
    have e : l.drop i = l[i] :: l.drop (i + 1) := by rw [List.drop_eq_getElem_cons hi]
    have er : rd_T43 l (i : Int) = l[i] := by simp [rd_T43, hi]
    rw [e, List.any_cons]
    by_cases h1 : l[i].f0 = a
    · by_cases h2 : l[i].f1 = b
      · rw [h1, h2]
        simp only [beq_self_eq_true, Bool.and_self, Bool.true_or]
        refine Gives.now fun k => ?_
        simp only [pomaderef02_Arc.l0]
        rw [if_pos (by omega), if_pos (by omega), er, if_pos h1, if_pos h2]
      · rw [beq_eq_false_iff_ne.2 h2, Bool.and_false, Bool.false_or]
        refine (Arc_l0 l a b hl d (i + 1) (by omega)).step fun k hk => ?_
        simp only [pomaderef02_Arc.l0]
        rw [if_pos (by omega), if_pos (by omega), er, if_pos h1, if_neg h2, wr_succ i (by omega)]
        exact hk
    · rw [beq_eq_false_iff_ne.2 h1, Bool.false_and, Bool.false_or]
      refine (Arc_l0 l a b hl d (i + 1) (by omega)).step fun k hk => ?_
      simp only [pomaderef02_Arc.l0]
      rw [if_pos (by omega), if_pos (by omega), er, if_neg h1, wr_succ i (by omega)]
      exact hk
theorem arc_any {n : Int} {l : List S43} (he : ofE n l = 0) (hl : l.length ≤ 150) {a b : Nat} (h : arcO (townO l) a b) (A : Option Addr) (c : Nat) (w : World) (hr : Kd.C k43 w A l.length l) (hc : l.length ≤ c) :
    Calls Try.prog 43 #[.slice A l.length c, .int .i64 (a : Nat), .int .i64 (b : Nat)] w fun e w' => e = .returned (.bool true) ∧ Below w.heap.size w w' := by
  have hg : Gives (fun k => pomaderef02_Arc.f k l a b) true := by
    have h0 := Arc_l0 l a b hl l.length 0 (by omega)
    have e : ((l.drop 0).any fun p => p.f0 == (a : Int) && p.f1 == (b : Int)) = true := by
      obtain ⟨p, hp, h1, h2⟩ := (town_bit he a b).1 h
      rw [List.any_eq_true]
      exact ⟨p, hp, by rw [h1, h2]; simp⟩
    rw [e] at h0
    exact h0
  obtain ⟨k0, hk0⟩ := hg
  refine (pomaderef02_Arc.calls k0 A c l a b true w hr hc (hk0 k0 (Nat.le_refl _))).mono fun e w' h => ?_
  first
    | exact h
    | exact ⟨h.1, h.2.below⟩
end Go.Proofs.Ytmobefgnkiboaaa.Im

namespace Go.Proofs.Ytmobefgnkiboaaa.Im
open Go.RowKit Go.Proofs.YtmobefgnkiboaaaW.PrintWords Go.Proofs.YtmobefgnkiboaaaW.PrintLast Go.Proofs.YtmobefgnkiboaaaW.PrintMore
set_option linter.unusedVariables false
theorem memO_len (n : Int) (l : List S43) (x : Option Nat) : (listF n l (x.map memL)).length < 1000000 := by
  unfold listF
  split
  · cases x with
    | none => simp
    | some t => have := memL_len t; simp; omega
  · simp
end Go.Proofs.Ytmobefgnkiboaaa.Im

namespace Go.Proofs.Ytmobefgnkiboaaa.Im
open Go.RowKit Go.Proofs.YtmobefgnkiboaaaW.PrintWords Go.Proofs.YtmobefgnkiboaaaW.PrintLast Go.Proofs.YtmobefgnkiboaaaW.PrintMore
set_option linter.unusedVariables false
set_option maxHeartbeats 3200000 in
set_option maxRecDepth 100000 in
theorem law13_kn (n : Int) (A : Option Addr) (c : Nat) (l : List S43) (D : Option Addr) (d : Nat) (st : List Int) (w : World) (hr : Kd.C k43 w A l.length l) (hc : l.length ≤ c) (hr2 : Kd.C (Kd.int .i64) w D st.length st) (hd : st.length ≤ d)(he : ofE n l = 0) (hf1 : l.length ≤ 150) (hf2 : st.length ≤ 50) (hk : kerO n l = none) :
    Calls Try.prog 13 #[.int .i64 n, .slice A l.length c, .slice D st.length d] w fun e w' => e = .returned (.bool true) ∧ Below w.heap.size w w' := by
  have HF := Aside0.mk (few_any A D c d l st w hr hc hr2 hd)
  have HR := Aside0.mk hr
  have HD := Aside0.mk hr2
  have hev : (ofE n l == 0) = true := by rw [he]; rfl
  rw [decide_eq_true hf1, decide_eq_true hf2, Bool.and_self] at HF
  have HV := Aside0.mk (fun (w : World) h1 => valid_any n A c l w h1 hc)
  rw [hev] at HV
  have HK := Aside0.mk (fun (w : World) h1 => progKernel_any n A c l w h1 hc)
  have HO := Aside0.mk (fun (w : World) h1 => progOdd_any n A c l w h1 hc)
  have HI := Aside0.mk (fun (w : World) h1 h3 => Is_any n A c l D d st w h1 hc h3 hd (by omega))
  have HI2 := Aside0.mk (fun (B : Option Addr) (q : Nat) (xs : List Int) (w : World) h1 h3 h4 h5 => Is_any n A c l B q xs w h1 hc h3 h4 h5)
  have HM := Aside0.mk (fun (w : World) h1 => Kernels_any n A c l w h1 hc)
  have HP := Aside0.mk (fun (w : World) h1 => PerfectP_any n A c l w h1 hc)
  have hkl : (listF n l (kerO n l)).length < 1000000 := memO_len n l _
  unfold IsPost at HI HI2
  unfold KernelsPost at HM
  unfold listF errF at HK HO
  unfold listF at hkl
  unfold perL perB at HP
  simp only [he, if_true] at HK HO HI HI2 HM HP hkl
  have hmp := many_pos he
  generalize manyK n.toNat (townO l) (2 ^ n.toNat) = M at *
  clear hr hr2 hev
  rw [hk] at HK hmp hkl
  simp only [Option.getD_none, Option.isSome_none, Bool.false_eq_true, if_false, iff_false] at HK hmp
  have hM : decide (0 < M) = false := decide_eq_false hmp
  obtain ⟨ro, ho⟩ : ∃ ro, oddO n l = some ro := by
    cases ho : oddO n l with
    | some ro => exact ⟨ro, rfl⟩
    | none => obtain ⟨r, hr⟩ := rich_ker he ho; rw [hk] at hr; cases hr
  rw [ho] at HO
  simp only [Option.getD_some, Option.isSome_some, if_true] at HO
  have HOdd := Aside0.mk (odd_cycle he ho)
  have HA := Aside0.mk (fun (x y : Nat) hxy (w : World) h1 => arc_any he hf1 (a := x) (b := y) hxy A c w h1 hc)
  have hn0 := (ofE_ok he).1
  obtain ⟨b, hp⟩ : ∃ b, perS n.toNat (townO l) = some b := by
    cases hp : perS n.toNat (townO l) with
    | some b => exact ⟨b, rfl⟩
    | none => obtain ⟨r, hr⟩ := per_ker he hp; rw [hk] at hr; cases hr
  have hpp := per_pos he hp
  rw [hp] at HP
  simp only [Option.map_some, Option.getD_some, Option.isNone_some] at HP
  generalize memL b = L3 at *
  have hp0 : ((L3.length : Int) == 0) = false := beq_eq_false_iff_ne.2 (by omega)
  have hb : isB n.toNat (townO l) st = false := by
    cases hb : isB n.toNat (townO l) st with
    | false => rfl
    | true => obtain ⟨r, hr, _⟩ := is_kernel he hb; rw [hk] at hr; cases hr
  rw [hb] at HI
  clear hb hp
  clear HI2
  clear he hk ho hmp hf1 hf2
  by_cases hn8 : 8 < n
  · --
    go_enter Try.func13, Try.ntmps13
    go_wp2_with fail
    refine (HF.out).mono ?_
    rintro e w1 ⟨rfl, hb1⟩
    have HB1 := Aside0.mk (hb1)
    have HR_1 := Aside0.mk (Kd.C_below HR.out hb1)
    have HD_1 := Aside0.mk (Kd.C_below HD.out hb1)
    clear hb1
    go_wp2_with fail
    refine (HV.out _ HR_1.out).mono ?_
    rintro e w2 ⟨rfl, hb2⟩
    have HB2 := Aside0.mk (below_then HB1.out HB1.out.size hb2)
    have HR_2 := Aside0.mk (Kd.C_below HR_1.out hb2)
    have HD_2 := Aside0.mk (Kd.C_below HD_1.out hb2)
    clear hb2
    go_wp2_with fail
    refine (HK.out _ HR_2.out).mono ?_
    rintro e w3 ⟨A3, c3, rfl, hc3, hC3, hb3⟩
    have HB3 := Aside0.mk (below_then HB2.out HB2.out.size hb3)
    have HR_3 := Aside0.mk (Kd.C_below HR_2.out hb3)
    have HD_3 := Aside0.mk (Kd.C_below HD_2.out hb3)
    have KQ_3 := Aside0.mk (hC3)
    clear hb3
    clear hC3
    go_wp2_with fail
    refine (HO.out _ HR_3.out).mono ?_
    rintro e w4 ⟨A4, c4, rfl, hc4, hC4, hb4⟩
    have HB4 := Aside0.mk (below_then HB3.out HB3.out.size hb4)
    have HR_4 := Aside0.mk (Kd.C_below HR_3.out hb4)
    have HD_4 := Aside0.mk (Kd.C_below HD_3.out hb4)
    have KQ_4 := Aside0.mk (Kd.C_below KQ_3.out hb4)
    have OQ_4 := Aside0.mk (hC4)
    clear hb4
    clear hC4
    go_wp2_with fail
    refine (HI.out _ HR_4.out HD_4.out).mono ?_
    rintro e w5 ⟨rfl, hb5⟩
    have HB5 := Aside0.mk (below_then HB4.out HB4.out.size hb5)
    have HR_5 := Aside0.mk (Kd.C_below HR_4.out hb5)
    have HD_5 := Aside0.mk (Kd.C_below HD_4.out hb5)
    have KQ_5 := Aside0.mk (Kd.C_below KQ_4.out hb5)
    have OQ_5 := Aside0.mk (Kd.C_below OQ_4.out hb5)
    clear hb5
    go_wp2_with fail
    refine (HM.out _ HR_5.out).mono ?_
    rintro e w6 ⟨rfl, hb6⟩
    have HB6 := Aside0.mk (below_then HB5.out HB5.out.size hb6)
    have HR_6 := Aside0.mk (Kd.C_below HR_5.out hb6)
    have HD_6 := Aside0.mk (Kd.C_below HD_5.out hb6)
    have KQ_6 := Aside0.mk (Kd.C_below KQ_5.out hb6)
    have OQ_6 := Aside0.mk (Kd.C_below OQ_5.out hb6)
    clear hb6
    have HOQ := OQ_6
    go_wp2_with fail
    obtain ⟨W, rfl⟩ : ∃ W : World, W = w6 := ⟨_, rfl⟩
    go_loopw [17] (fun v wr => ∃ i : Nat, i ≤ ro.length ∧ v = .int .i64 (i : Int) ∧ Aside0 (Below W.heap.size W wr)) (fun v _ => ro.length - (intOf v).toNat)
    case atStart => exact ⟨0, Nat.zero_le _, rfl, ⟨Below.refl _ _⟩⟩
    case round =>
      obtain ⟨i, hi, rfl, HBr⟩ := hrel
      by_cases hil : i < ro.length
      · obtain ⟨j, hj⟩ : ∃ j, (i + 1) % ro.length = j := ⟨_, rfl⟩
        have hjl : j < ro.length := by rw [← hj]; exact Nat.mod_lt _ (by omega)
        have hro : ro.length = (ints ro).length := (ints_length ro).symm
        obtain ⟨ao, e0, ci⟩ := Kd.at_int (Kd.C_below HOQ.out HBr.out) (i : Int) (by omega) (by omega)
        obtain ⟨ao', e0', cj⟩ := Kd.at_int (Kd.C_below HOQ.out HBr.out) (j : Int) (by omega) (by omega)
        rw [e0] at e0'
        cases e0'
        obtain rfl := e0
        rw [rd_ints, Int.toNat_natCast] at ci cj
        have hlt := HOdd.out.lt i hil
        have harc := HOdd.out.arc i hil
        rw [hj] at harc
        have em : Int.tmod ((i : Int) + 1) (ro.length : Int) = (j : Int) := by rw [Int.tmod_eq_emod_of_nonneg (by omega), ← hj]; first | exact (Int.natCast_mod (i + 1) ro.length).symm | exact (Int.natCast_emod (i + 1) ro.length).symm | (push_cast; rfl)
        obtain ⟨x, hx⟩ : ∃ x, ro.getD i 0 = x := ⟨_, rfl⟩
        obtain ⟨y, hy⟩ : ∃ y, ro.getD j 0 = y := ⟨_, rfl⟩
        rw [hx] at ci hlt
        rw [hx, hy] at harc
        rw [hy] at cj
        have HArc := Aside0.mk (fun (w : World) h1 => HA.out x y harc w h1)
        have hxn : decide (n ≤ (x : Int)) = false := by rw [decide_eq_false_iff_not]; omega
        have ew : IntKind.i64.wrap ((i : Int) + 1) = (i : Int) + 1 := wr62 _ (by omega) (by have := HOdd.out.len; omega)
        have i0 : (0 : Int) ≤ i := by omega
        have i1 : (i : Int) < ro.length := by omega
        have j0 : (0 : Int) ≤ j := by omega
        have j1 : (j : Int) < ro.length := by omega
        have hlen99 := HOdd.out.len
        have hz1 : ¬ ((ro.length : Int) = 0) := by omega
        have hz2 : ¬ ro = [] := fun e => by rw [e] at hil; simp at hil
        have hz3 : ((ro.length : Int) == 0) = false := beq_eq_false_iff_ne.2 hz1
        have ci' : wr.drew.cell? (ao.add i) = some (.int .i64 (x : Nat)) := ci
        have cj' : wr.drew.cell? (ao.add j) = some (.int .i64 (y : Nat)) := cj
        have ib := World.block_lt_of_cell? wr.drew _ ci'
        have jb := World.block_lt_of_cell? wr.drew _ cj'
        have HCells := Aside0.mk (And.intro ci' (And.intro cj' (And.intro ib jb)))
        have HRx := Aside0.mk (Kd.C_below HR_6.out (below_drew HBr.out))
        clear hx hy hj hro harc hlt ci' cj' ib jb
        go_wp2_with fail
        go_region_held3 (fun w' => w'.cell? (ao.add i) = some (.int .i64 (x : Nat)) ∧ w'.cell? (ao.add j) = some (.int .i64 (y : Nat))) (first | go_keep)
          (first | (go_at_call 43; refine (HArc.out _ HRx.out).mono ?_; rintro e w2 ⟨rfl, hb2⟩; have HB2 := Aside0.mk (below_then (below_drew HBr.out) (below_drew HBr.out).size hb2); have ci2 : w2.cell? (ao.add i) = some (.int .i64 (x : Nat)) := (hb2.cell HCells.out.2.2.1).trans HCells.out.1; have cj2 : w2.cell? (ao.add j) = some (.int .i64 (y : Nat)) := (hb2.cell HCells.out.2.2.2).trans HCells.out.2.1; clear hb2))
        go_wp2_with fail
        go_roundw
        case rel => exact ⟨i + 1, by omega, by go_num, HB2⟩
        case measure => simp [intOf]; try omega
      · obtain rfl : i = ro.length := by omega
        have HBW := Aside0.mk (below_then HB6.out HB6.out.size HBr.out)
        have HRX := Aside0.mk (Kd.C_below HR_6.out HBr.out)
        have hodd := HOdd.out.odd
        have hlen99 := HOdd.out.len
        have em2 : ((ro.length : Int) % 2 == 0) = false := by rw [beq_eq_false_iff_ne]; omega
        have em3 : (Int.tmod (ro.length : Int) 2 == 0) = false := by rw [beq_eq_false_iff_ne, Int.tmod_eq_emod_of_nonneg (by omega)]; omega
        clear hodd
        go_wp2_with fail
        refine (alive_any _).mono ?_
        rintro e w21 ⟨rfl, hb21⟩
        have HB21 := Aside0.mk (below_then HBW.out HBW.out.size hb21)
        have HR_21 := Aside0.mk (Kd.C_below HRX.out hb21)
        clear hb21
        go_wp2_with fail
        go_ret
        exact ⟨rfl, HB21.out⟩
  · --
    go_enter Try.func13, Try.ntmps13
    go_wp2_with fail
    refine (HF.out).mono ?_
    rintro e w1 ⟨rfl, hb1⟩
    have HB1 := Aside0.mk (hb1)
    have HR_1 := Aside0.mk (Kd.C_below HR.out hb1)
    have HD_1 := Aside0.mk (Kd.C_below HD.out hb1)
    clear hb1
    go_wp2_with fail
    refine (HV.out _ HR_1.out).mono ?_
    rintro e w2 ⟨rfl, hb2⟩
    have HB2 := Aside0.mk (below_then HB1.out HB1.out.size hb2)
    have HR_2 := Aside0.mk (Kd.C_below HR_1.out hb2)
    have HD_2 := Aside0.mk (Kd.C_below HD_1.out hb2)
    clear hb2
    go_wp2_with fail
    refine (HK.out _ HR_2.out).mono ?_
    rintro e w3 ⟨A3, c3, rfl, hc3, hC3, hb3⟩
    have HB3 := Aside0.mk (below_then HB2.out HB2.out.size hb3)
    have HR_3 := Aside0.mk (Kd.C_below HR_2.out hb3)
    have HD_3 := Aside0.mk (Kd.C_below HD_2.out hb3)
    have KQ_3 := Aside0.mk (hC3)
    clear hb3
    clear hC3
    go_wp2_with fail
    refine (HO.out _ HR_3.out).mono ?_
    rintro e w4 ⟨A4, c4, rfl, hc4, hC4, hb4⟩
    have HB4 := Aside0.mk (below_then HB3.out HB3.out.size hb4)
    have HR_4 := Aside0.mk (Kd.C_below HR_3.out hb4)
    have HD_4 := Aside0.mk (Kd.C_below HD_3.out hb4)
    have KQ_4 := Aside0.mk (Kd.C_below KQ_3.out hb4)
    have OQ_4 := Aside0.mk (hC4)
    clear hb4
    clear hC4
    go_wp2_with fail
    refine (HI.out _ HR_4.out HD_4.out).mono ?_
    rintro e w5 ⟨rfl, hb5⟩
    have HB5 := Aside0.mk (below_then HB4.out HB4.out.size hb5)
    have HR_5 := Aside0.mk (Kd.C_below HR_4.out hb5)
    have HD_5 := Aside0.mk (Kd.C_below HD_4.out hb5)
    have KQ_5 := Aside0.mk (Kd.C_below KQ_4.out hb5)
    have OQ_5 := Aside0.mk (Kd.C_below OQ_4.out hb5)
    clear hb5
    go_wp2_with fail
    refine (HM.out _ HR_5.out).mono ?_
    rintro e w6 ⟨rfl, hb6⟩
    have HB6 := Aside0.mk (below_then HB5.out HB5.out.size hb6)
    have HR_6 := Aside0.mk (Kd.C_below HR_5.out hb6)
    have HD_6 := Aside0.mk (Kd.C_below HD_5.out hb6)
    have KQ_6 := Aside0.mk (Kd.C_below KQ_5.out hb6)
    have OQ_6 := Aside0.mk (Kd.C_below OQ_5.out hb6)
    clear hb6
    have HOQ := OQ_6
    go_wp2_with fail
    obtain ⟨W, rfl⟩ : ∃ W : World, W = w6 := ⟨_, rfl⟩
    go_loopw [17] (fun v wr => ∃ i : Nat, i ≤ ro.length ∧ v = .int .i64 (i : Int) ∧ Aside0 (Below W.heap.size W wr)) (fun v _ => ro.length - (intOf v).toNat)
    case atStart => exact ⟨0, Nat.zero_le _, rfl, ⟨Below.refl _ _⟩⟩
    case round =>
      obtain ⟨i, hi, rfl, HBr⟩ := hrel
      by_cases hil : i < ro.length
      · obtain ⟨j, hj⟩ : ∃ j, (i + 1) % ro.length = j := ⟨_, rfl⟩
        have hjl : j < ro.length := by rw [← hj]; exact Nat.mod_lt _ (by omega)
        have hro : ro.length = (ints ro).length := (ints_length ro).symm
        obtain ⟨ao, e0, ci⟩ := Kd.at_int (Kd.C_below HOQ.out HBr.out) (i : Int) (by omega) (by omega)
        obtain ⟨ao', e0', cj⟩ := Kd.at_int (Kd.C_below HOQ.out HBr.out) (j : Int) (by omega) (by omega)
        rw [e0] at e0'
        cases e0'
        obtain rfl := e0
        rw [rd_ints, Int.toNat_natCast] at ci cj
        have hlt := HOdd.out.lt i hil
        have harc := HOdd.out.arc i hil
        rw [hj] at harc
        have em : Int.tmod ((i : Int) + 1) (ro.length : Int) = (j : Int) := by rw [Int.tmod_eq_emod_of_nonneg (by omega), ← hj]; first | exact (Int.natCast_mod (i + 1) ro.length).symm | exact (Int.natCast_emod (i + 1) ro.length).symm | (push_cast; rfl)
        obtain ⟨x, hx⟩ : ∃ x, ro.getD i 0 = x := ⟨_, rfl⟩
        obtain ⟨y, hy⟩ : ∃ y, ro.getD j 0 = y := ⟨_, rfl⟩
        rw [hx] at ci hlt
        rw [hx, hy] at harc
        rw [hy] at cj
        have HArc := Aside0.mk (fun (w : World) h1 => HA.out x y harc w h1)
        have hxn : decide (n ≤ (x : Int)) = false := by rw [decide_eq_false_iff_not]; omega
        have ew : IntKind.i64.wrap ((i : Int) + 1) = (i : Int) + 1 := wr62 _ (by omega) (by have := HOdd.out.len; omega)
        have i0 : (0 : Int) ≤ i := by omega
        have i1 : (i : Int) < ro.length := by omega
        have j0 : (0 : Int) ≤ j := by omega
        have j1 : (j : Int) < ro.length := by omega
        have hlen99 := HOdd.out.len
        have hz1 : ¬ ((ro.length : Int) = 0) := by omega
        have hz2 : ¬ ro = [] := fun e => by rw [e] at hil; simp at hil
        have hz3 : ((ro.length : Int) == 0) = false := beq_eq_false_iff_ne.2 hz1
        have ci' : wr.drew.cell? (ao.add i) = some (.int .i64 (x : Nat)) := ci
        have cj' : wr.drew.cell? (ao.add j) = some (.int .i64 (y : Nat)) := cj
        have ib := World.block_lt_of_cell? wr.drew _ ci'
        have jb := World.block_lt_of_cell? wr.drew _ cj'
        have HCells := Aside0.mk (And.intro ci' (And.intro cj' (And.intro ib jb)))
        have HRx := Aside0.mk (Kd.C_below HR_6.out (below_drew HBr.out))
        clear hx hy hj hro harc hlt ci' cj' ib jb
        go_wp2_with fail
        go_region_held3 (fun w' => w'.cell? (ao.add i) = some (.int .i64 (x : Nat)) ∧ w'.cell? (ao.add j) = some (.int .i64 (y : Nat))) (first | go_keep)
          (first | (go_at_call 43; refine (HArc.out _ HRx.out).mono ?_; rintro e w2 ⟨rfl, hb2⟩; have HB2 := Aside0.mk (below_then (below_drew HBr.out) (below_drew HBr.out).size hb2); have ci2 : w2.cell? (ao.add i) = some (.int .i64 (x : Nat)) := (hb2.cell HCells.out.2.2.1).trans HCells.out.1; have cj2 : w2.cell? (ao.add j) = some (.int .i64 (y : Nat)) := (hb2.cell HCells.out.2.2.2).trans HCells.out.2.1; clear hb2))
        go_wp2_with fail
        go_roundw
        case rel => exact ⟨i + 1, by omega, by go_num, HB2⟩
        case measure => simp [intOf]; try omega
      · obtain rfl : i = ro.length := by omega
        have HBW := Aside0.mk (below_then HB6.out HB6.out.size HBr.out)
        have HRX := Aside0.mk (Kd.C_below HR_6.out HBr.out)
        have hodd := HOdd.out.odd
        have hlen99 := HOdd.out.len
        have em2 : ((ro.length : Int) % 2 == 0) = false := by rw [beq_eq_false_iff_ne]; omega
        have em3 : (Int.tmod (ro.length : Int) 2 == 0) = false := by rw [beq_eq_false_iff_ne, Int.tmod_eq_emod_of_nonneg (by omega)]; omega
        clear hodd
        go_wp2_with fail
        refine (HP.out _ HRX.out).mono ?_
        rintro e w21 ⟨A21, c21, rfl, _, _, hb21⟩
        have HB21 := Aside0.mk (below_then HBW.out HBW.out.size hb21)
        have HR_21 := Aside0.mk (Kd.C_below HRX.out hb21)
        clear hb21
        go_wp2_with fail
        refine (alive_any _).mono ?_
        rintro e w22 ⟨rfl, hb22⟩
        have HB22 := Aside0.mk (below_then HB21.out HB21.out.size hb22)
        have HR_22 := Aside0.mk (Kd.C_below HR_21.out hb22)
        clear hb22
        go_wp2_with fail
        go_ret
        exact ⟨rfl, HB22.out⟩
set_option maxHeartbeats 3200000 in
set_option maxRecDepth 100000 in
theorem law13_ksn (n : Int) (A : Option Addr) (c : Nat) (l : List S43) (D : Option Addr) (d : Nat) (st : List Int) (w : World) (hr : Kd.C k43 w A l.length l) (hc : l.length ≤ c) (hr2 : Kd.C (Kd.int .i64) w D st.length st) (hd : st.length ≤ d)(he : ofE n l = 0) (hf1 : l.length ≤ 150) (hf2 : st.length ≤ 50) (rk : List Nat) (hk : kerO n l = some rk) (ho : oddO n l = none) :
    Calls Try.prog 13 #[.int .i64 n, .slice A l.length c, .slice D st.length d] w fun e w' => e = .returned (.bool true) ∧ Below w.heap.size w w' := by
  have HF := Aside0.mk (few_any A D c d l st w hr hc hr2 hd)
  have HR := Aside0.mk hr
  have HD := Aside0.mk hr2
  have hev : (ofE n l == 0) = true := by rw [he]; rfl
  rw [decide_eq_true hf1, decide_eq_true hf2, Bool.and_self] at HF
  have HV := Aside0.mk (fun (w : World) h1 => valid_any n A c l w h1 hc)
  rw [hev] at HV
  have HK := Aside0.mk (fun (w : World) h1 => progKernel_any n A c l w h1 hc)
  have HO := Aside0.mk (fun (w : World) h1 => progOdd_any n A c l w h1 hc)
  have HI := Aside0.mk (fun (w : World) h1 h3 => Is_any n A c l D d st w h1 hc h3 hd (by omega))
  have HI2 := Aside0.mk (fun (B : Option Addr) (q : Nat) (xs : List Int) (w : World) h1 h3 h4 h5 => Is_any n A c l B q xs w h1 hc h3 h4 h5)
  have HM := Aside0.mk (fun (w : World) h1 => Kernels_any n A c l w h1 hc)
  have HP := Aside0.mk (fun (w : World) h1 => PerfectP_any n A c l w h1 hc)
  have hkl : (listF n l (kerO n l)).length < 1000000 := memO_len n l _
  unfold IsPost at HI HI2
  unfold KernelsPost at HM
  unfold listF errF at HK HO
  unfold listF at hkl
  unfold perL perB at HP
  simp only [he, if_true] at HK HO HI HI2 HM HP hkl
  have hmp := many_pos he
  generalize manyK n.toNat (townO l) (2 ^ n.toNat) = M at *
  clear hr hr2 hev
  rw [hk] at HK hmp hkl
  simp only [Option.getD_some, Option.isSome_some, if_true, iff_true] at HK hmp hkl
  have hM : decide (0 < M) = true := decide_eq_true hmp
  have HFk := Aside0.mk (isB_found he hk)
  rw [ho] at HO
  simp only [Option.getD_none, Option.isSome_none, Bool.false_eq_true, if_false] at HO
  have hp := rich_per he ho
  rw [hp] at HP
  simp only [Option.map_none, Option.getD_none, Option.isNone_none] at HP
  cases hb : isB n.toNat (townO l) st with
  | false =>
    rw [hb] at HI
    generalize isB n.toNat (townO l) = isb at *
    clear hb hp he hk ho hmp hf1
    by_cases hn8 : 8 < n
    · --
      go_enter Try.func13, Try.ntmps13
      go_wp2_with fail
      refine (HF.out).mono ?_
      rintro e w1 ⟨rfl, hb1⟩
      have HB1 := Aside0.mk (hb1)
      have HR_1 := Aside0.mk (Kd.C_below HR.out hb1)
      have HD_1 := Aside0.mk (Kd.C_below HD.out hb1)
      clear hb1
      go_wp2_with fail
      refine (HV.out _ HR_1.out).mono ?_
      rintro e w2 ⟨rfl, hb2⟩
      have HB2 := Aside0.mk (below_then HB1.out HB1.out.size hb2)
      have HR_2 := Aside0.mk (Kd.C_below HR_1.out hb2)
      have HD_2 := Aside0.mk (Kd.C_below HD_1.out hb2)
      clear hb2
      go_wp2_with fail
      refine (HK.out _ HR_2.out).mono ?_
      rintro e w3 ⟨A3, c3, rfl, hc3, hC3, hb3⟩
      have HB3 := Aside0.mk (below_then HB2.out HB2.out.size hb3)
      have HR_3 := Aside0.mk (Kd.C_below HR_2.out hb3)
      have HD_3 := Aside0.mk (Kd.C_below HD_2.out hb3)
      have KQ_3 := Aside0.mk (hC3)
      clear hb3
      clear hC3
      go_wp2_with fail
      refine (HO.out _ HR_3.out).mono ?_
      rintro e w4 ⟨A4, c4, rfl, hc4, hC4, hb4⟩
      have HB4 := Aside0.mk (below_then HB3.out HB3.out.size hb4)
      have HR_4 := Aside0.mk (Kd.C_below HR_3.out hb4)
      have HD_4 := Aside0.mk (Kd.C_below HD_3.out hb4)
      have KQ_4 := Aside0.mk (Kd.C_below KQ_3.out hb4)
      have OQ_4 := Aside0.mk (hC4)
      clear hb4
      clear hC4
      go_wp2_with fail
      refine (HI.out _ HR_4.out HD_4.out).mono ?_
      rintro e w5 ⟨rfl, hb5⟩
      have HB5 := Aside0.mk (below_then HB4.out HB4.out.size hb5)
      have HR_5 := Aside0.mk (Kd.C_below HR_4.out hb5)
      have HD_5 := Aside0.mk (Kd.C_below HD_4.out hb5)
      have KQ_5 := Aside0.mk (Kd.C_below KQ_4.out hb5)
      have OQ_5 := Aside0.mk (Kd.C_below OQ_4.out hb5)
      clear hb5
      go_wp2_with fail
      refine (HM.out _ HR_5.out).mono ?_
      rintro e w6 ⟨rfl, hb6⟩
      have HB6 := Aside0.mk (below_then HB5.out HB5.out.size hb6)
      have HR_6 := Aside0.mk (Kd.C_below HR_5.out hb6)
      have HD_6 := Aside0.mk (Kd.C_below HD_5.out hb6)
      have KQ_6 := Aside0.mk (Kd.C_below KQ_5.out hb6)
      have OQ_6 := Aside0.mk (Kd.C_below OQ_5.out hb6)
      clear hb6
      have HI3 := HI2.out A3 c3 (ints rk) w6 HR_6.out (by rw [ints_length]; exact KQ_6.out) (by rw [ints_length]; exact hc3) (by rw [ints_length]; omega)
      rw [HFk.out, ints_length] at HI3
      have HI4 := Aside0.mk HI3
      clear HI3
      go_wp2_with fail
      refine (HI4.out).mono ?_
      rintro e w7 ⟨rfl, hb7⟩
      have HB7 := Aside0.mk (below_then HB6.out HB6.out.size hb7)
      have HR_7 := Aside0.mk (Kd.C_below HR_6.out hb7)
      have HD_7 := Aside0.mk (Kd.C_below HD_6.out hb7)
      have KQ_7 := Aside0.mk (Kd.C_below KQ_6.out hb7)
      have OQ_7 := Aside0.mk (Kd.C_below OQ_6.out hb7)
      clear hb7

      go_wp2_with fail
      obtain ⟨W, rfl⟩ : ∃ W : World, W = w7 := ⟨_, rfl⟩
      go_loopw [17] (fun v wr => v = .int .i64 0 ∧ Aside0 (Below W.heap.size W wr)) (fun _ _ => 0)
      case atStart => exact ⟨rfl, ⟨Below.refl _ _⟩⟩
      case round =>
        obtain ⟨rfl, HBr⟩ := hrel
        have HBW := Aside0.mk (below_then HB7.out HB7.out.size HBr.out)
        have HRX := Aside0.mk (Kd.C_below HR_7.out HBr.out)
        go_wp2_with fail
        refine (alive_any _).mono ?_
        rintro e w21 ⟨rfl, hb21⟩
        have HB21 := Aside0.mk (below_then HBW.out HBW.out.size hb21)
        have HR_21 := Aside0.mk (Kd.C_below HRX.out hb21)
        clear hb21
        go_wp2_with fail
        go_ret
        exact ⟨rfl, HB21.out⟩
    · --
      go_enter Try.func13, Try.ntmps13
      go_wp2_with fail
      refine (HF.out).mono ?_
      rintro e w1 ⟨rfl, hb1⟩
      have HB1 := Aside0.mk (hb1)
      have HR_1 := Aside0.mk (Kd.C_below HR.out hb1)
      have HD_1 := Aside0.mk (Kd.C_below HD.out hb1)
      clear hb1
      go_wp2_with fail
      refine (HV.out _ HR_1.out).mono ?_
      rintro e w2 ⟨rfl, hb2⟩
      have HB2 := Aside0.mk (below_then HB1.out HB1.out.size hb2)
      have HR_2 := Aside0.mk (Kd.C_below HR_1.out hb2)
      have HD_2 := Aside0.mk (Kd.C_below HD_1.out hb2)
      clear hb2
      go_wp2_with fail
      refine (HK.out _ HR_2.out).mono ?_
      rintro e w3 ⟨A3, c3, rfl, hc3, hC3, hb3⟩
      have HB3 := Aside0.mk (below_then HB2.out HB2.out.size hb3)
      have HR_3 := Aside0.mk (Kd.C_below HR_2.out hb3)
      have HD_3 := Aside0.mk (Kd.C_below HD_2.out hb3)
      have KQ_3 := Aside0.mk (hC3)
      clear hb3
      clear hC3
      go_wp2_with fail
      refine (HO.out _ HR_3.out).mono ?_
      rintro e w4 ⟨A4, c4, rfl, hc4, hC4, hb4⟩
      have HB4 := Aside0.mk (below_then HB3.out HB3.out.size hb4)
      have HR_4 := Aside0.mk (Kd.C_below HR_3.out hb4)
      have HD_4 := Aside0.mk (Kd.C_below HD_3.out hb4)
      have KQ_4 := Aside0.mk (Kd.C_below KQ_3.out hb4)
      have OQ_4 := Aside0.mk (hC4)
      clear hb4
      clear hC4
      go_wp2_with fail
      refine (HI.out _ HR_4.out HD_4.out).mono ?_
      rintro e w5 ⟨rfl, hb5⟩
      have HB5 := Aside0.mk (below_then HB4.out HB4.out.size hb5)
      have HR_5 := Aside0.mk (Kd.C_below HR_4.out hb5)
      have HD_5 := Aside0.mk (Kd.C_below HD_4.out hb5)
      have KQ_5 := Aside0.mk (Kd.C_below KQ_4.out hb5)
      have OQ_5 := Aside0.mk (Kd.C_below OQ_4.out hb5)
      clear hb5
      go_wp2_with fail
      refine (HM.out _ HR_5.out).mono ?_
      rintro e w6 ⟨rfl, hb6⟩
      have HB6 := Aside0.mk (below_then HB5.out HB5.out.size hb6)
      have HR_6 := Aside0.mk (Kd.C_below HR_5.out hb6)
      have HD_6 := Aside0.mk (Kd.C_below HD_5.out hb6)
      have KQ_6 := Aside0.mk (Kd.C_below KQ_5.out hb6)
      have OQ_6 := Aside0.mk (Kd.C_below OQ_5.out hb6)
      clear hb6
      have HI3 := HI2.out A3 c3 (ints rk) w6 HR_6.out (by rw [ints_length]; exact KQ_6.out) (by rw [ints_length]; exact hc3) (by rw [ints_length]; omega)
      rw [HFk.out, ints_length] at HI3
      have HI4 := Aside0.mk HI3
      clear HI3
      go_wp2_with fail
      refine (HI4.out).mono ?_
      rintro e w7 ⟨rfl, hb7⟩
      have HB7 := Aside0.mk (below_then HB6.out HB6.out.size hb7)
      have HR_7 := Aside0.mk (Kd.C_below HR_6.out hb7)
      have HD_7 := Aside0.mk (Kd.C_below HD_6.out hb7)
      have KQ_7 := Aside0.mk (Kd.C_below KQ_6.out hb7)
      have OQ_7 := Aside0.mk (Kd.C_below OQ_6.out hb7)
      clear hb7

      go_wp2_with fail
      obtain ⟨W, rfl⟩ : ∃ W : World, W = w7 := ⟨_, rfl⟩
      go_loopw [17] (fun v wr => v = .int .i64 0 ∧ Aside0 (Below W.heap.size W wr)) (fun _ _ => 0)
      case atStart => exact ⟨rfl, ⟨Below.refl _ _⟩⟩
      case round =>
        obtain ⟨rfl, HBr⟩ := hrel
        have HBW := Aside0.mk (below_then HB7.out HB7.out.size HBr.out)
        have HRX := Aside0.mk (Kd.C_below HR_7.out HBr.out)
        go_wp2_with fail
        refine (HP.out _ HRX.out).mono ?_
        rintro e w21 ⟨A21, c21, rfl, _, _, hb21⟩
        have HB21 := Aside0.mk (below_then HBW.out HBW.out.size hb21)
        have HR_21 := Aside0.mk (Kd.C_below HRX.out hb21)
        clear hb21
        go_wp2_with fail
        refine (alive_any _).mono ?_
        rintro e w22 ⟨rfl, hb22⟩
        have HB22 := Aside0.mk (below_then HB21.out HB21.out.size hb22)
        have HR_22 := Aside0.mk (Kd.C_below HR_21.out hb22)
        clear hb22
        go_wp2_with fail
        go_ret
        exact ⟨rfl, HB22.out⟩
  | true =>
    rw [hb] at HI
    have hless : lessB st (ints rk) = false := by
      obtain ⟨r, hr, h2⟩ := is_kernel he hb
      rw [hk] at hr; cases hr; exact h2
    have HL := Aside0.mk (fun (B : Option Addr) (q : Nat) (w : World) h3 h4 h5 => less_any st (ints rk) D d B q w (by omega) (by rw [ints_length]; omega) h3 hd h4 h5)
    rw [hless, ints_length] at HL
    generalize isB n.toNat (townO l) = isb at *
    clear hb hp he hk ho hmp hf1 hless
    by_cases hn8 : 8 < n
    · --
      go_enter Try.func13, Try.ntmps13
      go_wp2_with fail
      refine (HF.out).mono ?_
      rintro e w1 ⟨rfl, hb1⟩
      have HB1 := Aside0.mk (hb1)
      have HR_1 := Aside0.mk (Kd.C_below HR.out hb1)
      have HD_1 := Aside0.mk (Kd.C_below HD.out hb1)
      clear hb1
      go_wp2_with fail
      refine (HV.out _ HR_1.out).mono ?_
      rintro e w2 ⟨rfl, hb2⟩
      have HB2 := Aside0.mk (below_then HB1.out HB1.out.size hb2)
      have HR_2 := Aside0.mk (Kd.C_below HR_1.out hb2)
      have HD_2 := Aside0.mk (Kd.C_below HD_1.out hb2)
      clear hb2
      go_wp2_with fail
      refine (HK.out _ HR_2.out).mono ?_
      rintro e w3 ⟨A3, c3, rfl, hc3, hC3, hb3⟩
      have HB3 := Aside0.mk (below_then HB2.out HB2.out.size hb3)
      have HR_3 := Aside0.mk (Kd.C_below HR_2.out hb3)
      have HD_3 := Aside0.mk (Kd.C_below HD_2.out hb3)
      have KQ_3 := Aside0.mk (hC3)
      clear hb3
      clear hC3
      go_wp2_with fail
      refine (HO.out _ HR_3.out).mono ?_
      rintro e w4 ⟨A4, c4, rfl, hc4, hC4, hb4⟩
      have HB4 := Aside0.mk (below_then HB3.out HB3.out.size hb4)
      have HR_4 := Aside0.mk (Kd.C_below HR_3.out hb4)
      have HD_4 := Aside0.mk (Kd.C_below HD_3.out hb4)
      have KQ_4 := Aside0.mk (Kd.C_below KQ_3.out hb4)
      have OQ_4 := Aside0.mk (hC4)
      clear hb4
      clear hC4
      go_wp2_with fail
      refine (HI.out _ HR_4.out HD_4.out).mono ?_
      rintro e w5 ⟨rfl, hb5⟩
      have HB5 := Aside0.mk (below_then HB4.out HB4.out.size hb5)
      have HR_5 := Aside0.mk (Kd.C_below HR_4.out hb5)
      have HD_5 := Aside0.mk (Kd.C_below HD_4.out hb5)
      have KQ_5 := Aside0.mk (Kd.C_below KQ_4.out hb5)
      have OQ_5 := Aside0.mk (Kd.C_below OQ_4.out hb5)
      clear hb5
      go_wp2_with fail
      refine (HM.out _ HR_5.out).mono ?_
      rintro e w6 ⟨rfl, hb6⟩
      have HB6 := Aside0.mk (below_then HB5.out HB5.out.size hb6)
      have HR_6 := Aside0.mk (Kd.C_below HR_5.out hb6)
      have HD_6 := Aside0.mk (Kd.C_below HD_5.out hb6)
      have KQ_6 := Aside0.mk (Kd.C_below KQ_5.out hb6)
      have OQ_6 := Aside0.mk (Kd.C_below OQ_5.out hb6)
      clear hb6
      go_wp2_with fail
      refine (HL.out A3 c3 _ HD_6.out KQ_6.out hc3).mono ?_
      rintro e w7 ⟨rfl, hb7⟩
      have HB7 := Aside0.mk (below_then HB6.out HB6.out.size hb7)
      have HR_7 := Aside0.mk (Kd.C_below HR_6.out hb7)
      have HD_7 := Aside0.mk (Kd.C_below HD_6.out hb7)
      have KQ_7 := Aside0.mk (Kd.C_below KQ_6.out hb7)
      have OQ_7 := Aside0.mk (Kd.C_below OQ_6.out hb7)
      clear hb7
      have HI3 := HI2.out A3 c3 (ints rk) w7 HR_7.out (by rw [ints_length]; exact KQ_7.out) (by rw [ints_length]; exact hc3) (by rw [ints_length]; omega)
      rw [HFk.out, ints_length] at HI3
      have HI4 := Aside0.mk HI3
      clear HI3
      go_wp2_with fail
      refine (HI4.out).mono ?_
      rintro e w8 ⟨rfl, hb8⟩
      have HB8 := Aside0.mk (below_then HB7.out HB7.out.size hb8)
      have HR_8 := Aside0.mk (Kd.C_below HR_7.out hb8)
      have HD_8 := Aside0.mk (Kd.C_below HD_7.out hb8)
      have KQ_8 := Aside0.mk (Kd.C_below KQ_7.out hb8)
      have OQ_8 := Aside0.mk (Kd.C_below OQ_7.out hb8)
      clear hb8

      go_wp2_with fail
      obtain ⟨W, rfl⟩ : ∃ W : World, W = w8 := ⟨_, rfl⟩
      go_loopw [17] (fun v wr => v = .int .i64 0 ∧ Aside0 (Below W.heap.size W wr)) (fun _ _ => 0)
      case atStart => exact ⟨rfl, ⟨Below.refl _ _⟩⟩
      case round =>
        obtain ⟨rfl, HBr⟩ := hrel
        have HBW := Aside0.mk (below_then HB8.out HB8.out.size HBr.out)
        have HRX := Aside0.mk (Kd.C_below HR_8.out HBr.out)
        go_wp2_with fail
        refine (alive_any _).mono ?_
        rintro e w21 ⟨rfl, hb21⟩
        have HB21 := Aside0.mk (below_then HBW.out HBW.out.size hb21)
        have HR_21 := Aside0.mk (Kd.C_below HRX.out hb21)
        clear hb21
        go_wp2_with fail
        go_ret
        exact ⟨rfl, HB21.out⟩
    · --
      go_enter Try.func13, Try.ntmps13
      go_wp2_with fail
      refine (HF.out).mono ?_
      rintro e w1 ⟨rfl, hb1⟩
      have HB1 := Aside0.mk (hb1)
      have HR_1 := Aside0.mk (Kd.C_below HR.out hb1)
      have HD_1 := Aside0.mk (Kd.C_below HD.out hb1)
      clear hb1
      go_wp2_with fail
      refine (HV.out _ HR_1.out).mono ?_
      rintro e w2 ⟨rfl, hb2⟩
      have HB2 := Aside0.mk (below_then HB1.out HB1.out.size hb2)
      have HR_2 := Aside0.mk (Kd.C_below HR_1.out hb2)
      have HD_2 := Aside0.mk (Kd.C_below HD_1.out hb2)
      clear hb2
      go_wp2_with fail
      refine (HK.out _ HR_2.out).mono ?_
      rintro e w3 ⟨A3, c3, rfl, hc3, hC3, hb3⟩
      have HB3 := Aside0.mk (below_then HB2.out HB2.out.size hb3)
      have HR_3 := Aside0.mk (Kd.C_below HR_2.out hb3)
      have HD_3 := Aside0.mk (Kd.C_below HD_2.out hb3)
      have KQ_3 := Aside0.mk (hC3)
      clear hb3
      clear hC3
      go_wp2_with fail
      refine (HO.out _ HR_3.out).mono ?_
      rintro e w4 ⟨A4, c4, rfl, hc4, hC4, hb4⟩
      have HB4 := Aside0.mk (below_then HB3.out HB3.out.size hb4)
      have HR_4 := Aside0.mk (Kd.C_below HR_3.out hb4)
      have HD_4 := Aside0.mk (Kd.C_below HD_3.out hb4)
      have KQ_4 := Aside0.mk (Kd.C_below KQ_3.out hb4)
      have OQ_4 := Aside0.mk (hC4)
      clear hb4
      clear hC4
      go_wp2_with fail
      refine (HI.out _ HR_4.out HD_4.out).mono ?_
      rintro e w5 ⟨rfl, hb5⟩
      have HB5 := Aside0.mk (below_then HB4.out HB4.out.size hb5)
      have HR_5 := Aside0.mk (Kd.C_below HR_4.out hb5)
      have HD_5 := Aside0.mk (Kd.C_below HD_4.out hb5)
      have KQ_5 := Aside0.mk (Kd.C_below KQ_4.out hb5)
      have OQ_5 := Aside0.mk (Kd.C_below OQ_4.out hb5)
      clear hb5
      go_wp2_with fail
      refine (HM.out _ HR_5.out).mono ?_
      rintro e w6 ⟨rfl, hb6⟩
      have HB6 := Aside0.mk (below_then HB5.out HB5.out.size hb6)
      have HR_6 := Aside0.mk (Kd.C_below HR_5.out hb6)
      have HD_6 := Aside0.mk (Kd.C_below HD_5.out hb6)
      have KQ_6 := Aside0.mk (Kd.C_below KQ_5.out hb6)
      have OQ_6 := Aside0.mk (Kd.C_below OQ_5.out hb6)
      clear hb6
      go_wp2_with fail
      refine (HL.out A3 c3 _ HD_6.out KQ_6.out hc3).mono ?_
      rintro e w7 ⟨rfl, hb7⟩
      have HB7 := Aside0.mk (below_then HB6.out HB6.out.size hb7)
      have HR_7 := Aside0.mk (Kd.C_below HR_6.out hb7)
      have HD_7 := Aside0.mk (Kd.C_below HD_6.out hb7)
      have KQ_7 := Aside0.mk (Kd.C_below KQ_6.out hb7)
      have OQ_7 := Aside0.mk (Kd.C_below OQ_6.out hb7)
      clear hb7
      have HI3 := HI2.out A3 c3 (ints rk) w7 HR_7.out (by rw [ints_length]; exact KQ_7.out) (by rw [ints_length]; exact hc3) (by rw [ints_length]; omega)
      rw [HFk.out, ints_length] at HI3
      have HI4 := Aside0.mk HI3
      clear HI3
      go_wp2_with fail
      refine (HI4.out).mono ?_
      rintro e w8 ⟨rfl, hb8⟩
      have HB8 := Aside0.mk (below_then HB7.out HB7.out.size hb8)
      have HR_8 := Aside0.mk (Kd.C_below HR_7.out hb8)
      have HD_8 := Aside0.mk (Kd.C_below HD_7.out hb8)
      have KQ_8 := Aside0.mk (Kd.C_below KQ_7.out hb8)
      have OQ_8 := Aside0.mk (Kd.C_below OQ_7.out hb8)
      clear hb8

      go_wp2_with fail
      obtain ⟨W, rfl⟩ : ∃ W : World, W = w8 := ⟨_, rfl⟩
      go_loopw [17] (fun v wr => v = .int .i64 0 ∧ Aside0 (Below W.heap.size W wr)) (fun _ _ => 0)
      case atStart => exact ⟨rfl, ⟨Below.refl _ _⟩⟩
      case round =>
        obtain ⟨rfl, HBr⟩ := hrel
        have HBW := Aside0.mk (below_then HB8.out HB8.out.size HBr.out)
        have HRX := Aside0.mk (Kd.C_below HR_8.out HBr.out)
        go_wp2_with fail
        refine (HP.out _ HRX.out).mono ?_
        rintro e w21 ⟨A21, c21, rfl, _, _, hb21⟩
        have HB21 := Aside0.mk (below_then HBW.out HBW.out.size hb21)
        have HR_21 := Aside0.mk (Kd.C_below HRX.out hb21)
        clear hb21
        go_wp2_with fail
        refine (alive_any _).mono ?_
        rintro e w22 ⟨rfl, hb22⟩
        have HB22 := Aside0.mk (below_then HB21.out HB21.out.size hb22)
        have HR_22 := Aside0.mk (Kd.C_below HR_21.out hb22)
        clear hb22
        go_wp2_with fail
        go_ret
        exact ⟨rfl, HB22.out⟩
set_option maxHeartbeats 3200000 in
set_option maxRecDepth 100000 in
theorem law13_kssn (n : Int) (A : Option Addr) (c : Nat) (l : List S43) (D : Option Addr) (d : Nat) (st : List Int) (w : World) (hr : Kd.C k43 w A l.length l) (hc : l.length ≤ c) (hr2 : Kd.C (Kd.int .i64) w D st.length st) (hd : st.length ≤ d)(he : ofE n l = 0) (hf1 : l.length ≤ 150) (hf2 : st.length ≤ 50) (rk : List Nat) (hk : kerO n l = some rk) (ro : List Nat) (ho : oddO n l = some ro) (hp : perS n.toNat (townO l) = none) :
    Calls Try.prog 13 #[.int .i64 n, .slice A l.length c, .slice D st.length d] w fun e w' => e = .returned (.bool true) ∧ Below w.heap.size w w' := by
  have HF := Aside0.mk (few_any A D c d l st w hr hc hr2 hd)
  have HR := Aside0.mk hr
  have HD := Aside0.mk hr2
  have hev : (ofE n l == 0) = true := by rw [he]; rfl
  rw [decide_eq_true hf1, decide_eq_true hf2, Bool.and_self] at HF
  have HV := Aside0.mk (fun (w : World) h1 => valid_any n A c l w h1 hc)
  rw [hev] at HV
  have HK := Aside0.mk (fun (w : World) h1 => progKernel_any n A c l w h1 hc)
  have HO := Aside0.mk (fun (w : World) h1 => progOdd_any n A c l w h1 hc)
  have HI := Aside0.mk (fun (w : World) h1 h3 => Is_any n A c l D d st w h1 hc h3 hd (by omega))
  have HI2 := Aside0.mk (fun (B : Option Addr) (q : Nat) (xs : List Int) (w : World) h1 h3 h4 h5 => Is_any n A c l B q xs w h1 hc h3 h4 h5)
  have HM := Aside0.mk (fun (w : World) h1 => Kernels_any n A c l w h1 hc)
  have HP := Aside0.mk (fun (w : World) h1 => PerfectP_any n A c l w h1 hc)
  have hkl : (listF n l (kerO n l)).length < 1000000 := memO_len n l _
  unfold IsPost at HI HI2
  unfold KernelsPost at HM
  unfold listF errF at HK HO
  unfold listF at hkl
  unfold perL perB at HP
  simp only [he, if_true] at HK HO HI HI2 HM HP hkl
  have hmp := many_pos he
  generalize manyK n.toNat (townO l) (2 ^ n.toNat) = M at *
  clear hr hr2 hev
  rw [hk] at HK hmp hkl
  simp only [Option.getD_some, Option.isSome_some, if_true, iff_true] at HK hmp hkl
  have hM : decide (0 < M) = true := decide_eq_true hmp
  have HFk := Aside0.mk (isB_found he hk)
  rw [ho] at HO
  simp only [Option.getD_some, Option.isSome_some, if_true] at HO
  have HOdd := Aside0.mk (odd_cycle he ho)
  have HA := Aside0.mk (fun (x y : Nat) hxy (w : World) h1 => arc_any he hf1 (a := x) (b := y) hxy A c w h1 hc)
  have hn0 := (ofE_ok he).1
  rw [hp] at HP
  simp only [Option.map_none, Option.getD_none, Option.isNone_none] at HP
  cases hb : isB n.toNat (townO l) st with
  | false =>
    rw [hb] at HI
    generalize isB n.toNat (townO l) = isb at *
    clear hb hp he hk ho hmp hf1
    by_cases hn8 : 8 < n
    · --
      go_enter Try.func13, Try.ntmps13
      go_wp2_with fail
      refine (HF.out).mono ?_
      rintro e w1 ⟨rfl, hb1⟩
      have HB1 := Aside0.mk (hb1)
      have HR_1 := Aside0.mk (Kd.C_below HR.out hb1)
      have HD_1 := Aside0.mk (Kd.C_below HD.out hb1)
      clear hb1
      go_wp2_with fail
      refine (HV.out _ HR_1.out).mono ?_
      rintro e w2 ⟨rfl, hb2⟩
      have HB2 := Aside0.mk (below_then HB1.out HB1.out.size hb2)
      have HR_2 := Aside0.mk (Kd.C_below HR_1.out hb2)
      have HD_2 := Aside0.mk (Kd.C_below HD_1.out hb2)
      clear hb2
      go_wp2_with fail
      refine (HK.out _ HR_2.out).mono ?_
      rintro e w3 ⟨A3, c3, rfl, hc3, hC3, hb3⟩
      have HB3 := Aside0.mk (below_then HB2.out HB2.out.size hb3)
      have HR_3 := Aside0.mk (Kd.C_below HR_2.out hb3)
      have HD_3 := Aside0.mk (Kd.C_below HD_2.out hb3)
      have KQ_3 := Aside0.mk (hC3)
      clear hb3
      clear hC3
      go_wp2_with fail
      refine (HO.out _ HR_3.out).mono ?_
      rintro e w4 ⟨A4, c4, rfl, hc4, hC4, hb4⟩
      have HB4 := Aside0.mk (below_then HB3.out HB3.out.size hb4)
      have HR_4 := Aside0.mk (Kd.C_below HR_3.out hb4)
      have HD_4 := Aside0.mk (Kd.C_below HD_3.out hb4)
      have KQ_4 := Aside0.mk (Kd.C_below KQ_3.out hb4)
      have OQ_4 := Aside0.mk (hC4)
      clear hb4
      clear hC4
      go_wp2_with fail
      refine (HI.out _ HR_4.out HD_4.out).mono ?_
      rintro e w5 ⟨rfl, hb5⟩
      have HB5 := Aside0.mk (below_then HB4.out HB4.out.size hb5)
      have HR_5 := Aside0.mk (Kd.C_below HR_4.out hb5)
      have HD_5 := Aside0.mk (Kd.C_below HD_4.out hb5)
      have KQ_5 := Aside0.mk (Kd.C_below KQ_4.out hb5)
      have OQ_5 := Aside0.mk (Kd.C_below OQ_4.out hb5)
      clear hb5
      go_wp2_with fail
      refine (HM.out _ HR_5.out).mono ?_
      rintro e w6 ⟨rfl, hb6⟩
      have HB6 := Aside0.mk (below_then HB5.out HB5.out.size hb6)
      have HR_6 := Aside0.mk (Kd.C_below HR_5.out hb6)
      have HD_6 := Aside0.mk (Kd.C_below HD_5.out hb6)
      have KQ_6 := Aside0.mk (Kd.C_below KQ_5.out hb6)
      have OQ_6 := Aside0.mk (Kd.C_below OQ_5.out hb6)
      clear hb6
      have HI3 := HI2.out A3 c3 (ints rk) w6 HR_6.out (by rw [ints_length]; exact KQ_6.out) (by rw [ints_length]; exact hc3) (by rw [ints_length]; omega)
      rw [HFk.out, ints_length] at HI3
      have HI4 := Aside0.mk HI3
      clear HI3
      go_wp2_with fail
      refine (HI4.out).mono ?_
      rintro e w7 ⟨rfl, hb7⟩
      have HB7 := Aside0.mk (below_then HB6.out HB6.out.size hb7)
      have HR_7 := Aside0.mk (Kd.C_below HR_6.out hb7)
      have HD_7 := Aside0.mk (Kd.C_below HD_6.out hb7)
      have KQ_7 := Aside0.mk (Kd.C_below KQ_6.out hb7)
      have OQ_7 := Aside0.mk (Kd.C_below OQ_6.out hb7)
      clear hb7
      have HOQ := OQ_7
      go_wp2_with fail
      obtain ⟨W, rfl⟩ : ∃ W : World, W = w7 := ⟨_, rfl⟩
      go_loopw [17] (fun v wr => ∃ i : Nat, i ≤ ro.length ∧ v = .int .i64 (i : Int) ∧ Aside0 (Below W.heap.size W wr)) (fun v _ => ro.length - (intOf v).toNat)
      case atStart => exact ⟨0, Nat.zero_le _, rfl, ⟨Below.refl _ _⟩⟩
      case round =>
        obtain ⟨i, hi, rfl, HBr⟩ := hrel
        by_cases hil : i < ro.length
        · obtain ⟨j, hj⟩ : ∃ j, (i + 1) % ro.length = j := ⟨_, rfl⟩
          have hjl : j < ro.length := by rw [← hj]; exact Nat.mod_lt _ (by omega)
          have hro : ro.length = (ints ro).length := (ints_length ro).symm
          obtain ⟨ao, e0, ci⟩ := Kd.at_int (Kd.C_below HOQ.out HBr.out) (i : Int) (by omega) (by omega)
          obtain ⟨ao', e0', cj⟩ := Kd.at_int (Kd.C_below HOQ.out HBr.out) (j : Int) (by omega) (by omega)
          rw [e0] at e0'
          cases e0'
          obtain rfl := e0
          rw [rd_ints, Int.toNat_natCast] at ci cj
          have hlt := HOdd.out.lt i hil
          have harc := HOdd.out.arc i hil
          rw [hj] at harc
          have em : Int.tmod ((i : Int) + 1) (ro.length : Int) = (j : Int) := by rw [Int.tmod_eq_emod_of_nonneg (by omega), ← hj]; first | exact (Int.natCast_mod (i + 1) ro.length).symm | exact (Int.natCast_emod (i + 1) ro.length).symm | (push_cast; rfl)
          obtain ⟨x, hx⟩ : ∃ x, ro.getD i 0 = x := ⟨_, rfl⟩
          obtain ⟨y, hy⟩ : ∃ y, ro.getD j 0 = y := ⟨_, rfl⟩
          rw [hx] at ci hlt
          rw [hx, hy] at harc
          rw [hy] at cj
          have HArc := Aside0.mk (fun (w : World) h1 => HA.out x y harc w h1)
          have hxn : decide (n ≤ (x : Int)) = false := by rw [decide_eq_false_iff_not]; omega
          have ew : IntKind.i64.wrap ((i : Int) + 1) = (i : Int) + 1 := wr62 _ (by omega) (by have := HOdd.out.len; omega)
          have i0 : (0 : Int) ≤ i := by omega
          have i1 : (i : Int) < ro.length := by omega
          have j0 : (0 : Int) ≤ j := by omega
          have j1 : (j : Int) < ro.length := by omega
          have hlen99 := HOdd.out.len
          have hz1 : ¬ ((ro.length : Int) = 0) := by omega
          have hz2 : ¬ ro = [] := fun e => by rw [e] at hil; simp at hil
          have hz3 : ((ro.length : Int) == 0) = false := beq_eq_false_iff_ne.2 hz1
          have ci' : wr.drew.cell? (ao.add i) = some (.int .i64 (x : Nat)) := ci
          have cj' : wr.drew.cell? (ao.add j) = some (.int .i64 (y : Nat)) := cj
          have ib := World.block_lt_of_cell? wr.drew _ ci'
          have jb := World.block_lt_of_cell? wr.drew _ cj'
          have HCells := Aside0.mk (And.intro ci' (And.intro cj' (And.intro ib jb)))
          have HRx := Aside0.mk (Kd.C_below HR_7.out (below_drew HBr.out))
          clear hx hy hj hro harc hlt ci' cj' ib jb
          go_wp2_with fail
          go_region_held3 (fun w' => w'.cell? (ao.add i) = some (.int .i64 (x : Nat)) ∧ w'.cell? (ao.add j) = some (.int .i64 (y : Nat))) (first | go_keep)
            (first | (go_at_call 43; refine (HArc.out _ HRx.out).mono ?_; rintro e w2 ⟨rfl, hb2⟩; have HB2 := Aside0.mk (below_then (below_drew HBr.out) (below_drew HBr.out).size hb2); have ci2 : w2.cell? (ao.add i) = some (.int .i64 (x : Nat)) := (hb2.cell HCells.out.2.2.1).trans HCells.out.1; have cj2 : w2.cell? (ao.add j) = some (.int .i64 (y : Nat)) := (hb2.cell HCells.out.2.2.2).trans HCells.out.2.1; clear hb2))
          go_wp2_with fail
          go_roundw
          case rel => exact ⟨i + 1, by omega, by go_num, HB2⟩
          case measure => simp [intOf]; try omega
        · obtain rfl : i = ro.length := by omega
          have HBW := Aside0.mk (below_then HB7.out HB7.out.size HBr.out)
          have HRX := Aside0.mk (Kd.C_below HR_7.out HBr.out)
          have hodd := HOdd.out.odd
          have hlen99 := HOdd.out.len
          have em2 : ((ro.length : Int) % 2 == 0) = false := by rw [beq_eq_false_iff_ne]; omega
          have em3 : (Int.tmod (ro.length : Int) 2 == 0) = false := by rw [beq_eq_false_iff_ne, Int.tmod_eq_emod_of_nonneg (by omega)]; omega
          clear hodd
          go_wp2_with fail
          refine (alive_any _).mono ?_
          rintro e w21 ⟨rfl, hb21⟩
          have HB21 := Aside0.mk (below_then HBW.out HBW.out.size hb21)
          have HR_21 := Aside0.mk (Kd.C_below HRX.out hb21)
          clear hb21
          go_wp2_with fail
          go_ret
          exact ⟨rfl, HB21.out⟩
    · --
      go_enter Try.func13, Try.ntmps13
      go_wp2_with fail
      refine (HF.out).mono ?_
      rintro e w1 ⟨rfl, hb1⟩
      have HB1 := Aside0.mk (hb1)
      have HR_1 := Aside0.mk (Kd.C_below HR.out hb1)
      have HD_1 := Aside0.mk (Kd.C_below HD.out hb1)
      clear hb1
      go_wp2_with fail
      refine (HV.out _ HR_1.out).mono ?_
      rintro e w2 ⟨rfl, hb2⟩
      have HB2 := Aside0.mk (below_then HB1.out HB1.out.size hb2)
      have HR_2 := Aside0.mk (Kd.C_below HR_1.out hb2)
      have HD_2 := Aside0.mk (Kd.C_below HD_1.out hb2)
      clear hb2
      go_wp2_with fail
      refine (HK.out _ HR_2.out).mono ?_
      rintro e w3 ⟨A3, c3, rfl, hc3, hC3, hb3⟩
      have HB3 := Aside0.mk (below_then HB2.out HB2.out.size hb3)
      have HR_3 := Aside0.mk (Kd.C_below HR_2.out hb3)
      have HD_3 := Aside0.mk (Kd.C_below HD_2.out hb3)
      have KQ_3 := Aside0.mk (hC3)
      clear hb3
      clear hC3
      go_wp2_with fail
      refine (HO.out _ HR_3.out).mono ?_
      rintro e w4 ⟨A4, c4, rfl, hc4, hC4, hb4⟩
      have HB4 := Aside0.mk (below_then HB3.out HB3.out.size hb4)
      have HR_4 := Aside0.mk (Kd.C_below HR_3.out hb4)
      have HD_4 := Aside0.mk (Kd.C_below HD_3.out hb4)
      have KQ_4 := Aside0.mk (Kd.C_below KQ_3.out hb4)
      have OQ_4 := Aside0.mk (hC4)
      clear hb4
      clear hC4
      go_wp2_with fail
      refine (HI.out _ HR_4.out HD_4.out).mono ?_
      rintro e w5 ⟨rfl, hb5⟩
      have HB5 := Aside0.mk (below_then HB4.out HB4.out.size hb5)
      have HR_5 := Aside0.mk (Kd.C_below HR_4.out hb5)
      have HD_5 := Aside0.mk (Kd.C_below HD_4.out hb5)
      have KQ_5 := Aside0.mk (Kd.C_below KQ_4.out hb5)
      have OQ_5 := Aside0.mk (Kd.C_below OQ_4.out hb5)
      clear hb5
      go_wp2_with fail
      refine (HM.out _ HR_5.out).mono ?_
      rintro e w6 ⟨rfl, hb6⟩
      have HB6 := Aside0.mk (below_then HB5.out HB5.out.size hb6)
      have HR_6 := Aside0.mk (Kd.C_below HR_5.out hb6)
      have HD_6 := Aside0.mk (Kd.C_below HD_5.out hb6)
      have KQ_6 := Aside0.mk (Kd.C_below KQ_5.out hb6)
      have OQ_6 := Aside0.mk (Kd.C_below OQ_5.out hb6)
      clear hb6
      have HI3 := HI2.out A3 c3 (ints rk) w6 HR_6.out (by rw [ints_length]; exact KQ_6.out) (by rw [ints_length]; exact hc3) (by rw [ints_length]; omega)
      rw [HFk.out, ints_length] at HI3
      have HI4 := Aside0.mk HI3
      clear HI3
      go_wp2_with fail
      refine (HI4.out).mono ?_
      rintro e w7 ⟨rfl, hb7⟩
      have HB7 := Aside0.mk (below_then HB6.out HB6.out.size hb7)
      have HR_7 := Aside0.mk (Kd.C_below HR_6.out hb7)
      have HD_7 := Aside0.mk (Kd.C_below HD_6.out hb7)
      have KQ_7 := Aside0.mk (Kd.C_below KQ_6.out hb7)
      have OQ_7 := Aside0.mk (Kd.C_below OQ_6.out hb7)
      clear hb7
      have HOQ := OQ_7
      go_wp2_with fail
      obtain ⟨W, rfl⟩ : ∃ W : World, W = w7 := ⟨_, rfl⟩
      go_loopw [17] (fun v wr => ∃ i : Nat, i ≤ ro.length ∧ v = .int .i64 (i : Int) ∧ Aside0 (Below W.heap.size W wr)) (fun v _ => ro.length - (intOf v).toNat)
      case atStart => exact ⟨0, Nat.zero_le _, rfl, ⟨Below.refl _ _⟩⟩
      case round =>
        obtain ⟨i, hi, rfl, HBr⟩ := hrel
        by_cases hil : i < ro.length
        · obtain ⟨j, hj⟩ : ∃ j, (i + 1) % ro.length = j := ⟨_, rfl⟩
          have hjl : j < ro.length := by rw [← hj]; exact Nat.mod_lt _ (by omega)
          have hro : ro.length = (ints ro).length := (ints_length ro).symm
          obtain ⟨ao, e0, ci⟩ := Kd.at_int (Kd.C_below HOQ.out HBr.out) (i : Int) (by omega) (by omega)
          obtain ⟨ao', e0', cj⟩ := Kd.at_int (Kd.C_below HOQ.out HBr.out) (j : Int) (by omega) (by omega)
          rw [e0] at e0'
          cases e0'
          obtain rfl := e0
          rw [rd_ints, Int.toNat_natCast] at ci cj
          have hlt := HOdd.out.lt i hil
          have harc := HOdd.out.arc i hil
          rw [hj] at harc
          have em : Int.tmod ((i : Int) + 1) (ro.length : Int) = (j : Int) := by rw [Int.tmod_eq_emod_of_nonneg (by omega), ← hj]; first | exact (Int.natCast_mod (i + 1) ro.length).symm | exact (Int.natCast_emod (i + 1) ro.length).symm | (push_cast; rfl)
          obtain ⟨x, hx⟩ : ∃ x, ro.getD i 0 = x := ⟨_, rfl⟩
          obtain ⟨y, hy⟩ : ∃ y, ro.getD j 0 = y := ⟨_, rfl⟩
          rw [hx] at ci hlt
          rw [hx, hy] at harc
          rw [hy] at cj
          have HArc := Aside0.mk (fun (w : World) h1 => HA.out x y harc w h1)
          have hxn : decide (n ≤ (x : Int)) = false := by rw [decide_eq_false_iff_not]; omega
          have ew : IntKind.i64.wrap ((i : Int) + 1) = (i : Int) + 1 := wr62 _ (by omega) (by have := HOdd.out.len; omega)
          have i0 : (0 : Int) ≤ i := by omega
          have i1 : (i : Int) < ro.length := by omega
          have j0 : (0 : Int) ≤ j := by omega
          have j1 : (j : Int) < ro.length := by omega
          have hlen99 := HOdd.out.len
          have hz1 : ¬ ((ro.length : Int) = 0) := by omega
          have hz2 : ¬ ro = [] := fun e => by rw [e] at hil; simp at hil
          have hz3 : ((ro.length : Int) == 0) = false := beq_eq_false_iff_ne.2 hz1
          have ci' : wr.drew.cell? (ao.add i) = some (.int .i64 (x : Nat)) := ci
          have cj' : wr.drew.cell? (ao.add j) = some (.int .i64 (y : Nat)) := cj
          have ib := World.block_lt_of_cell? wr.drew _ ci'
          have jb := World.block_lt_of_cell? wr.drew _ cj'
          have HCells := Aside0.mk (And.intro ci' (And.intro cj' (And.intro ib jb)))
          have HRx := Aside0.mk (Kd.C_below HR_7.out (below_drew HBr.out))
          clear hx hy hj hro harc hlt ci' cj' ib jb
          go_wp2_with fail
          go_region_held3 (fun w' => w'.cell? (ao.add i) = some (.int .i64 (x : Nat)) ∧ w'.cell? (ao.add j) = some (.int .i64 (y : Nat))) (first | go_keep)
            (first | (go_at_call 43; refine (HArc.out _ HRx.out).mono ?_; rintro e w2 ⟨rfl, hb2⟩; have HB2 := Aside0.mk (below_then (below_drew HBr.out) (below_drew HBr.out).size hb2); have ci2 : w2.cell? (ao.add i) = some (.int .i64 (x : Nat)) := (hb2.cell HCells.out.2.2.1).trans HCells.out.1; have cj2 : w2.cell? (ao.add j) = some (.int .i64 (y : Nat)) := (hb2.cell HCells.out.2.2.2).trans HCells.out.2.1; clear hb2))
          go_wp2_with fail
          go_roundw
          case rel => exact ⟨i + 1, by omega, by go_num, HB2⟩
          case measure => simp [intOf]; try omega
        · obtain rfl : i = ro.length := by omega
          have HBW := Aside0.mk (below_then HB7.out HB7.out.size HBr.out)
          have HRX := Aside0.mk (Kd.C_below HR_7.out HBr.out)
          have hodd := HOdd.out.odd
          have hlen99 := HOdd.out.len
          have em2 : ((ro.length : Int) % 2 == 0) = false := by rw [beq_eq_false_iff_ne]; omega
          have em3 : (Int.tmod (ro.length : Int) 2 == 0) = false := by rw [beq_eq_false_iff_ne, Int.tmod_eq_emod_of_nonneg (by omega)]; omega
          clear hodd
          go_wp2_with fail
          refine (HP.out _ HRX.out).mono ?_
          rintro e w21 ⟨A21, c21, rfl, _, _, hb21⟩
          have HB21 := Aside0.mk (below_then HBW.out HBW.out.size hb21)
          have HR_21 := Aside0.mk (Kd.C_below HRX.out hb21)
          clear hb21
          go_wp2_with fail
          refine (alive_any _).mono ?_
          rintro e w22 ⟨rfl, hb22⟩
          have HB22 := Aside0.mk (below_then HB21.out HB21.out.size hb22)
          have HR_22 := Aside0.mk (Kd.C_below HR_21.out hb22)
          clear hb22
          go_wp2_with fail
          go_ret
          exact ⟨rfl, HB22.out⟩
  | true =>
    rw [hb] at HI
    have hless : lessB st (ints rk) = false := by
      obtain ⟨r, hr, h2⟩ := is_kernel he hb
      rw [hk] at hr; cases hr; exact h2
    have HL := Aside0.mk (fun (B : Option Addr) (q : Nat) (w : World) h3 h4 h5 => less_any st (ints rk) D d B q w (by omega) (by rw [ints_length]; omega) h3 hd h4 h5)
    rw [hless, ints_length] at HL
    generalize isB n.toNat (townO l) = isb at *
    clear hb hp he hk ho hmp hf1 hless
    by_cases hn8 : 8 < n
    · --
      go_enter Try.func13, Try.ntmps13
      go_wp2_with fail
      refine (HF.out).mono ?_
      rintro e w1 ⟨rfl, hb1⟩
      have HB1 := Aside0.mk (hb1)
      have HR_1 := Aside0.mk (Kd.C_below HR.out hb1)
      have HD_1 := Aside0.mk (Kd.C_below HD.out hb1)
      clear hb1
      go_wp2_with fail
      refine (HV.out _ HR_1.out).mono ?_
      rintro e w2 ⟨rfl, hb2⟩
      have HB2 := Aside0.mk (below_then HB1.out HB1.out.size hb2)
      have HR_2 := Aside0.mk (Kd.C_below HR_1.out hb2)
      have HD_2 := Aside0.mk (Kd.C_below HD_1.out hb2)
      clear hb2
      go_wp2_with fail
      refine (HK.out _ HR_2.out).mono ?_
      rintro e w3 ⟨A3, c3, rfl, hc3, hC3, hb3⟩
      have HB3 := Aside0.mk (below_then HB2.out HB2.out.size hb3)
      have HR_3 := Aside0.mk (Kd.C_below HR_2.out hb3)
      have HD_3 := Aside0.mk (Kd.C_below HD_2.out hb3)
      have KQ_3 := Aside0.mk (hC3)
      clear hb3
      clear hC3
      go_wp2_with fail
      refine (HO.out _ HR_3.out).mono ?_
      rintro e w4 ⟨A4, c4, rfl, hc4, hC4, hb4⟩
      have HB4 := Aside0.mk (below_then HB3.out HB3.out.size hb4)
      have HR_4 := Aside0.mk (Kd.C_below HR_3.out hb4)
      have HD_4 := Aside0.mk (Kd.C_below HD_3.out hb4)
      have KQ_4 := Aside0.mk (Kd.C_below KQ_3.out hb4)
      have OQ_4 := Aside0.mk (hC4)
      clear hb4
      clear hC4
      go_wp2_with fail
      refine (HI.out _ HR_4.out HD_4.out).mono ?_
      rintro e w5 ⟨rfl, hb5⟩
      have HB5 := Aside0.mk (below_then HB4.out HB4.out.size hb5)
      have HR_5 := Aside0.mk (Kd.C_below HR_4.out hb5)
      have HD_5 := Aside0.mk (Kd.C_below HD_4.out hb5)
      have KQ_5 := Aside0.mk (Kd.C_below KQ_4.out hb5)
      have OQ_5 := Aside0.mk (Kd.C_below OQ_4.out hb5)
      clear hb5
      go_wp2_with fail
      refine (HM.out _ HR_5.out).mono ?_
      rintro e w6 ⟨rfl, hb6⟩
      have HB6 := Aside0.mk (below_then HB5.out HB5.out.size hb6)
      have HR_6 := Aside0.mk (Kd.C_below HR_5.out hb6)
      have HD_6 := Aside0.mk (Kd.C_below HD_5.out hb6)
      have KQ_6 := Aside0.mk (Kd.C_below KQ_5.out hb6)
      have OQ_6 := Aside0.mk (Kd.C_below OQ_5.out hb6)
      clear hb6
      go_wp2_with fail
      refine (HL.out A3 c3 _ HD_6.out KQ_6.out hc3).mono ?_
      rintro e w7 ⟨rfl, hb7⟩
      have HB7 := Aside0.mk (below_then HB6.out HB6.out.size hb7)
      have HR_7 := Aside0.mk (Kd.C_below HR_6.out hb7)
      have HD_7 := Aside0.mk (Kd.C_below HD_6.out hb7)
      have KQ_7 := Aside0.mk (Kd.C_below KQ_6.out hb7)
      have OQ_7 := Aside0.mk (Kd.C_below OQ_6.out hb7)
      clear hb7
      have HI3 := HI2.out A3 c3 (ints rk) w7 HR_7.out (by rw [ints_length]; exact KQ_7.out) (by rw [ints_length]; exact hc3) (by rw [ints_length]; omega)
      rw [HFk.out, ints_length] at HI3
      have HI4 := Aside0.mk HI3
      clear HI3
      go_wp2_with fail
      refine (HI4.out).mono ?_
      rintro e w8 ⟨rfl, hb8⟩
      have HB8 := Aside0.mk (below_then HB7.out HB7.out.size hb8)
      have HR_8 := Aside0.mk (Kd.C_below HR_7.out hb8)
      have HD_8 := Aside0.mk (Kd.C_below HD_7.out hb8)
      have KQ_8 := Aside0.mk (Kd.C_below KQ_7.out hb8)
      have OQ_8 := Aside0.mk (Kd.C_below OQ_7.out hb8)
      clear hb8
      have HOQ := OQ_8
      go_wp2_with fail
      obtain ⟨W, rfl⟩ : ∃ W : World, W = w8 := ⟨_, rfl⟩
      go_loopw [17] (fun v wr => ∃ i : Nat, i ≤ ro.length ∧ v = .int .i64 (i : Int) ∧ Aside0 (Below W.heap.size W wr)) (fun v _ => ro.length - (intOf v).toNat)
      case atStart => exact ⟨0, Nat.zero_le _, rfl, ⟨Below.refl _ _⟩⟩
      case round =>
        obtain ⟨i, hi, rfl, HBr⟩ := hrel
        by_cases hil : i < ro.length
        · obtain ⟨j, hj⟩ : ∃ j, (i + 1) % ro.length = j := ⟨_, rfl⟩
          have hjl : j < ro.length := by rw [← hj]; exact Nat.mod_lt _ (by omega)
          have hro : ro.length = (ints ro).length := (ints_length ro).symm
          obtain ⟨ao, e0, ci⟩ := Kd.at_int (Kd.C_below HOQ.out HBr.out) (i : Int) (by omega) (by omega)
          obtain ⟨ao', e0', cj⟩ := Kd.at_int (Kd.C_below HOQ.out HBr.out) (j : Int) (by omega) (by omega)
          rw [e0] at e0'
          cases e0'
          obtain rfl := e0
          rw [rd_ints, Int.toNat_natCast] at ci cj
          have hlt := HOdd.out.lt i hil
          have harc := HOdd.out.arc i hil
          rw [hj] at harc
          have em : Int.tmod ((i : Int) + 1) (ro.length : Int) = (j : Int) := by rw [Int.tmod_eq_emod_of_nonneg (by omega), ← hj]; first | exact (Int.natCast_mod (i + 1) ro.length).symm | exact (Int.natCast_emod (i + 1) ro.length).symm | (push_cast; rfl)
          obtain ⟨x, hx⟩ : ∃ x, ro.getD i 0 = x := ⟨_, rfl⟩
          obtain ⟨y, hy⟩ : ∃ y, ro.getD j 0 = y := ⟨_, rfl⟩
          rw [hx] at ci hlt
          rw [hx, hy] at harc
          rw [hy] at cj
          have HArc := Aside0.mk (fun (w : World) h1 => HA.out x y harc w h1)
          have hxn : decide (n ≤ (x : Int)) = false := by rw [decide_eq_false_iff_not]; omega
          have ew : IntKind.i64.wrap ((i : Int) + 1) = (i : Int) + 1 := wr62 _ (by omega) (by have := HOdd.out.len; omega)
          have i0 : (0 : Int) ≤ i := by omega
          have i1 : (i : Int) < ro.length := by omega
          have j0 : (0 : Int) ≤ j := by omega
          have j1 : (j : Int) < ro.length := by omega
          have hlen99 := HOdd.out.len
          have hz1 : ¬ ((ro.length : Int) = 0) := by omega
          have hz2 : ¬ ro = [] := fun e => by rw [e] at hil; simp at hil
          have hz3 : ((ro.length : Int) == 0) = false := beq_eq_false_iff_ne.2 hz1
          have ci' : wr.drew.cell? (ao.add i) = some (.int .i64 (x : Nat)) := ci
          have cj' : wr.drew.cell? (ao.add j) = some (.int .i64 (y : Nat)) := cj
          have ib := World.block_lt_of_cell? wr.drew _ ci'
          have jb := World.block_lt_of_cell? wr.drew _ cj'
          have HCells := Aside0.mk (And.intro ci' (And.intro cj' (And.intro ib jb)))
          have HRx := Aside0.mk (Kd.C_below HR_8.out (below_drew HBr.out))
          clear hx hy hj hro harc hlt ci' cj' ib jb
          go_wp2_with fail
          go_region_held3 (fun w' => w'.cell? (ao.add i) = some (.int .i64 (x : Nat)) ∧ w'.cell? (ao.add j) = some (.int .i64 (y : Nat))) (first | go_keep)
            (first | (go_at_call 43; refine (HArc.out _ HRx.out).mono ?_; rintro e w2 ⟨rfl, hb2⟩; have HB2 := Aside0.mk (below_then (below_drew HBr.out) (below_drew HBr.out).size hb2); have ci2 : w2.cell? (ao.add i) = some (.int .i64 (x : Nat)) := (hb2.cell HCells.out.2.2.1).trans HCells.out.1; have cj2 : w2.cell? (ao.add j) = some (.int .i64 (y : Nat)) := (hb2.cell HCells.out.2.2.2).trans HCells.out.2.1; clear hb2))
          go_wp2_with fail
          go_roundw
          case rel => exact ⟨i + 1, by omega, by go_num, HB2⟩
          case measure => simp [intOf]; try omega
        · obtain rfl : i = ro.length := by omega
          have HBW := Aside0.mk (below_then HB8.out HB8.out.size HBr.out)
          have HRX := Aside0.mk (Kd.C_below HR_8.out HBr.out)
          have hodd := HOdd.out.odd
          have hlen99 := HOdd.out.len
          have em2 : ((ro.length : Int) % 2 == 0) = false := by rw [beq_eq_false_iff_ne]; omega
          have em3 : (Int.tmod (ro.length : Int) 2 == 0) = false := by rw [beq_eq_false_iff_ne, Int.tmod_eq_emod_of_nonneg (by omega)]; omega
          clear hodd
          go_wp2_with fail
          refine (alive_any _).mono ?_
          rintro e w21 ⟨rfl, hb21⟩
          have HB21 := Aside0.mk (below_then HBW.out HBW.out.size hb21)
          have HR_21 := Aside0.mk (Kd.C_below HRX.out hb21)
          clear hb21
          go_wp2_with fail
          go_ret
          exact ⟨rfl, HB21.out⟩
    · --
      go_enter Try.func13, Try.ntmps13
      go_wp2_with fail
      refine (HF.out).mono ?_
      rintro e w1 ⟨rfl, hb1⟩
      have HB1 := Aside0.mk (hb1)
      have HR_1 := Aside0.mk (Kd.C_below HR.out hb1)
      have HD_1 := Aside0.mk (Kd.C_below HD.out hb1)
      clear hb1
      go_wp2_with fail
      refine (HV.out _ HR_1.out).mono ?_
      rintro e w2 ⟨rfl, hb2⟩
      have HB2 := Aside0.mk (below_then HB1.out HB1.out.size hb2)
      have HR_2 := Aside0.mk (Kd.C_below HR_1.out hb2)
      have HD_2 := Aside0.mk (Kd.C_below HD_1.out hb2)
      clear hb2
      go_wp2_with fail
      refine (HK.out _ HR_2.out).mono ?_
      rintro e w3 ⟨A3, c3, rfl, hc3, hC3, hb3⟩
      have HB3 := Aside0.mk (below_then HB2.out HB2.out.size hb3)
      have HR_3 := Aside0.mk (Kd.C_below HR_2.out hb3)
      have HD_3 := Aside0.mk (Kd.C_below HD_2.out hb3)
      have KQ_3 := Aside0.mk (hC3)
      clear hb3
      clear hC3
      go_wp2_with fail
      refine (HO.out _ HR_3.out).mono ?_
      rintro e w4 ⟨A4, c4, rfl, hc4, hC4, hb4⟩
      have HB4 := Aside0.mk (below_then HB3.out HB3.out.size hb4)
      have HR_4 := Aside0.mk (Kd.C_below HR_3.out hb4)
      have HD_4 := Aside0.mk (Kd.C_below HD_3.out hb4)
      have KQ_4 := Aside0.mk (Kd.C_below KQ_3.out hb4)
      have OQ_4 := Aside0.mk (hC4)
      clear hb4
      clear hC4
      go_wp2_with fail
      refine (HI.out _ HR_4.out HD_4.out).mono ?_
      rintro e w5 ⟨rfl, hb5⟩
      have HB5 := Aside0.mk (below_then HB4.out HB4.out.size hb5)
      have HR_5 := Aside0.mk (Kd.C_below HR_4.out hb5)
      have HD_5 := Aside0.mk (Kd.C_below HD_4.out hb5)
      have KQ_5 := Aside0.mk (Kd.C_below KQ_4.out hb5)
      have OQ_5 := Aside0.mk (Kd.C_below OQ_4.out hb5)
      clear hb5
      go_wp2_with fail
      refine (HM.out _ HR_5.out).mono ?_
      rintro e w6 ⟨rfl, hb6⟩
      have HB6 := Aside0.mk (below_then HB5.out HB5.out.size hb6)
      have HR_6 := Aside0.mk (Kd.C_below HR_5.out hb6)
      have HD_6 := Aside0.mk (Kd.C_below HD_5.out hb6)
      have KQ_6 := Aside0.mk (Kd.C_below KQ_5.out hb6)
      have OQ_6 := Aside0.mk (Kd.C_below OQ_5.out hb6)
      clear hb6
      go_wp2_with fail
      refine (HL.out A3 c3 _ HD_6.out KQ_6.out hc3).mono ?_
      rintro e w7 ⟨rfl, hb7⟩
      have HB7 := Aside0.mk (below_then HB6.out HB6.out.size hb7)
      have HR_7 := Aside0.mk (Kd.C_below HR_6.out hb7)
      have HD_7 := Aside0.mk (Kd.C_below HD_6.out hb7)
      have KQ_7 := Aside0.mk (Kd.C_below KQ_6.out hb7)
      have OQ_7 := Aside0.mk (Kd.C_below OQ_6.out hb7)
      clear hb7
      have HI3 := HI2.out A3 c3 (ints rk) w7 HR_7.out (by rw [ints_length]; exact KQ_7.out) (by rw [ints_length]; exact hc3) (by rw [ints_length]; omega)
      rw [HFk.out, ints_length] at HI3
      have HI4 := Aside0.mk HI3
      clear HI3
      go_wp2_with fail
      refine (HI4.out).mono ?_
      rintro e w8 ⟨rfl, hb8⟩
      have HB8 := Aside0.mk (below_then HB7.out HB7.out.size hb8)
      have HR_8 := Aside0.mk (Kd.C_below HR_7.out hb8)
      have HD_8 := Aside0.mk (Kd.C_below HD_7.out hb8)
      have KQ_8 := Aside0.mk (Kd.C_below KQ_7.out hb8)
      have OQ_8 := Aside0.mk (Kd.C_below OQ_7.out hb8)
      clear hb8
      have HOQ := OQ_8
      go_wp2_with fail
      obtain ⟨W, rfl⟩ : ∃ W : World, W = w8 := ⟨_, rfl⟩
      go_loopw [17] (fun v wr => ∃ i : Nat, i ≤ ro.length ∧ v = .int .i64 (i : Int) ∧ Aside0 (Below W.heap.size W wr)) (fun v _ => ro.length - (intOf v).toNat)
      case atStart => exact ⟨0, Nat.zero_le _, rfl, ⟨Below.refl _ _⟩⟩
      case round =>
        obtain ⟨i, hi, rfl, HBr⟩ := hrel
        by_cases hil : i < ro.length
        · obtain ⟨j, hj⟩ : ∃ j, (i + 1) % ro.length = j := ⟨_, rfl⟩
          have hjl : j < ro.length := by rw [← hj]; exact Nat.mod_lt _ (by omega)
          have hro : ro.length = (ints ro).length := (ints_length ro).symm
          obtain ⟨ao, e0, ci⟩ := Kd.at_int (Kd.C_below HOQ.out HBr.out) (i : Int) (by omega) (by omega)
          obtain ⟨ao', e0', cj⟩ := Kd.at_int (Kd.C_below HOQ.out HBr.out) (j : Int) (by omega) (by omega)
          rw [e0] at e0'
          cases e0'
          obtain rfl := e0
          rw [rd_ints, Int.toNat_natCast] at ci cj
          have hlt := HOdd.out.lt i hil
          have harc := HOdd.out.arc i hil
          rw [hj] at harc
          have em : Int.tmod ((i : Int) + 1) (ro.length : Int) = (j : Int) := by rw [Int.tmod_eq_emod_of_nonneg (by omega), ← hj]; first | exact (Int.natCast_mod (i + 1) ro.length).symm | exact (Int.natCast_emod (i + 1) ro.length).symm | (push_cast; rfl)
          obtain ⟨x, hx⟩ : ∃ x, ro.getD i 0 = x := ⟨_, rfl⟩
          obtain ⟨y, hy⟩ : ∃ y, ro.getD j 0 = y := ⟨_, rfl⟩
          rw [hx] at ci hlt
          rw [hx, hy] at harc
          rw [hy] at cj
          have HArc := Aside0.mk (fun (w : World) h1 => HA.out x y harc w h1)
          have hxn : decide (n ≤ (x : Int)) = false := by rw [decide_eq_false_iff_not]; omega
          have ew : IntKind.i64.wrap ((i : Int) + 1) = (i : Int) + 1 := wr62 _ (by omega) (by have := HOdd.out.len; omega)
          have i0 : (0 : Int) ≤ i := by omega
          have i1 : (i : Int) < ro.length := by omega
          have j0 : (0 : Int) ≤ j := by omega
          have j1 : (j : Int) < ro.length := by omega
          have hlen99 := HOdd.out.len
          have hz1 : ¬ ((ro.length : Int) = 0) := by omega
          have hz2 : ¬ ro = [] := fun e => by rw [e] at hil; simp at hil
          have hz3 : ((ro.length : Int) == 0) = false := beq_eq_false_iff_ne.2 hz1
          have ci' : wr.drew.cell? (ao.add i) = some (.int .i64 (x : Nat)) := ci
          have cj' : wr.drew.cell? (ao.add j) = some (.int .i64 (y : Nat)) := cj
          have ib := World.block_lt_of_cell? wr.drew _ ci'
          have jb := World.block_lt_of_cell? wr.drew _ cj'
          have HCells := Aside0.mk (And.intro ci' (And.intro cj' (And.intro ib jb)))
          have HRx := Aside0.mk (Kd.C_below HR_8.out (below_drew HBr.out))
          clear hx hy hj hro harc hlt ci' cj' ib jb
          go_wp2_with fail
          go_region_held3 (fun w' => w'.cell? (ao.add i) = some (.int .i64 (x : Nat)) ∧ w'.cell? (ao.add j) = some (.int .i64 (y : Nat))) (first | go_keep)
            (first | (go_at_call 43; refine (HArc.out _ HRx.out).mono ?_; rintro e w2 ⟨rfl, hb2⟩; have HB2 := Aside0.mk (below_then (below_drew HBr.out) (below_drew HBr.out).size hb2); have ci2 : w2.cell? (ao.add i) = some (.int .i64 (x : Nat)) := (hb2.cell HCells.out.2.2.1).trans HCells.out.1; have cj2 : w2.cell? (ao.add j) = some (.int .i64 (y : Nat)) := (hb2.cell HCells.out.2.2.2).trans HCells.out.2.1; clear hb2))
          go_wp2_with fail
          go_roundw
          case rel => exact ⟨i + 1, by omega, by go_num, HB2⟩
          case measure => simp [intOf]; try omega
        · obtain rfl : i = ro.length := by omega
          have HBW := Aside0.mk (below_then HB8.out HB8.out.size HBr.out)
          have HRX := Aside0.mk (Kd.C_below HR_8.out HBr.out)
          have hodd := HOdd.out.odd
          have hlen99 := HOdd.out.len
          have em2 : ((ro.length : Int) % 2 == 0) = false := by rw [beq_eq_false_iff_ne]; omega
          have em3 : (Int.tmod (ro.length : Int) 2 == 0) = false := by rw [beq_eq_false_iff_ne, Int.tmod_eq_emod_of_nonneg (by omega)]; omega
          clear hodd
          go_wp2_with fail
          refine (HP.out _ HRX.out).mono ?_
          rintro e w21 ⟨A21, c21, rfl, _, _, hb21⟩
          have HB21 := Aside0.mk (below_then HBW.out HBW.out.size hb21)
          have HR_21 := Aside0.mk (Kd.C_below HRX.out hb21)
          clear hb21
          go_wp2_with fail
          refine (alive_any _).mono ?_
          rintro e w22 ⟨rfl, hb22⟩
          have HB22 := Aside0.mk (below_then HB21.out HB21.out.size hb22)
          have HR_22 := Aside0.mk (Kd.C_below HR_21.out hb22)
          clear hb22
          go_wp2_with fail
          go_ret
          exact ⟨rfl, HB22.out⟩
set_option maxHeartbeats 3200000 in
set_option maxRecDepth 100000 in
theorem law13_ksss (n : Int) (A : Option Addr) (c : Nat) (l : List S43) (D : Option Addr) (d : Nat) (st : List Int) (w : World) (hr : Kd.C k43 w A l.length l) (hc : l.length ≤ c) (hr2 : Kd.C (Kd.int .i64) w D st.length st) (hd : st.length ≤ d)(he : ofE n l = 0) (hf1 : l.length ≤ 150) (hf2 : st.length ≤ 50) (rk : List Nat) (hk : kerO n l = some rk) (ro : List Nat) (ho : oddO n l = some ro) (b : Nat) (hp : perS n.toNat (townO l) = some b) :
    Calls Try.prog 13 #[.int .i64 n, .slice A l.length c, .slice D st.length d] w fun e w' => e = .returned (.bool true) ∧ Below w.heap.size w w' := by
  have HF := Aside0.mk (few_any A D c d l st w hr hc hr2 hd)
  have HR := Aside0.mk hr
  have HD := Aside0.mk hr2
  have hev : (ofE n l == 0) = true := by rw [he]; rfl
  rw [decide_eq_true hf1, decide_eq_true hf2, Bool.and_self] at HF
  have HV := Aside0.mk (fun (w : World) h1 => valid_any n A c l w h1 hc)
  rw [hev] at HV
  have HK := Aside0.mk (fun (w : World) h1 => progKernel_any n A c l w h1 hc)
  have HO := Aside0.mk (fun (w : World) h1 => progOdd_any n A c l w h1 hc)
  have HI := Aside0.mk (fun (w : World) h1 h3 => Is_any n A c l D d st w h1 hc h3 hd (by omega))
  have HI2 := Aside0.mk (fun (B : Option Addr) (q : Nat) (xs : List Int) (w : World) h1 h3 h4 h5 => Is_any n A c l B q xs w h1 hc h3 h4 h5)
  have HM := Aside0.mk (fun (w : World) h1 => Kernels_any n A c l w h1 hc)
  have HP := Aside0.mk (fun (w : World) h1 => PerfectP_any n A c l w h1 hc)
  have hkl : (listF n l (kerO n l)).length < 1000000 := memO_len n l _
  unfold IsPost at HI HI2
  unfold KernelsPost at HM
  unfold listF errF at HK HO
  unfold listF at hkl
  unfold perL perB at HP
  simp only [he, if_true] at HK HO HI HI2 HM HP hkl
  have hmp := many_pos he
  generalize manyK n.toNat (townO l) (2 ^ n.toNat) = M at *
  clear hr hr2 hev
  rw [hk] at HK hmp hkl
  simp only [Option.getD_some, Option.isSome_some, if_true, iff_true] at HK hmp hkl
  have hM : decide (0 < M) = true := decide_eq_true hmp
  have HFk := Aside0.mk (isB_found he hk)
  rw [ho] at HO
  simp only [Option.getD_some, Option.isSome_some, if_true] at HO
  have HOdd := Aside0.mk (odd_cycle he ho)
  have HA := Aside0.mk (fun (x y : Nat) hxy (w : World) h1 => arc_any he hf1 (a := x) (b := y) hxy A c w h1 hc)
  have hn0 := (ofE_ok he).1
  have hpp := per_pos he hp
  rw [hp] at HP
  simp only [Option.map_some, Option.getD_some, Option.isNone_some] at HP
  generalize memL b = L3 at *
  have hp0 : ((L3.length : Int) == 0) = false := beq_eq_false_iff_ne.2 (by omega)
  cases hb : isB n.toNat (townO l) st with
  | false =>
    rw [hb] at HI
    generalize isB n.toNat (townO l) = isb at *
    clear hb hp he hk ho hmp hf1
    by_cases hn8 : 8 < n
    · --
      go_enter Try.func13, Try.ntmps13
      go_wp2_with fail
      refine (HF.out).mono ?_
      rintro e w1 ⟨rfl, hb1⟩
      have HB1 := Aside0.mk (hb1)
      have HR_1 := Aside0.mk (Kd.C_below HR.out hb1)
      have HD_1 := Aside0.mk (Kd.C_below HD.out hb1)
      clear hb1
      go_wp2_with fail
      refine (HV.out _ HR_1.out).mono ?_
      rintro e w2 ⟨rfl, hb2⟩
      have HB2 := Aside0.mk (below_then HB1.out HB1.out.size hb2)
      have HR_2 := Aside0.mk (Kd.C_below HR_1.out hb2)
      have HD_2 := Aside0.mk (Kd.C_below HD_1.out hb2)
      clear hb2
      go_wp2_with fail
      refine (HK.out _ HR_2.out).mono ?_
      rintro e w3 ⟨A3, c3, rfl, hc3, hC3, hb3⟩
      have HB3 := Aside0.mk (below_then HB2.out HB2.out.size hb3)
      have HR_3 := Aside0.mk (Kd.C_below HR_2.out hb3)
      have HD_3 := Aside0.mk (Kd.C_below HD_2.out hb3)
      have KQ_3 := Aside0.mk (hC3)
      clear hb3
      clear hC3
      go_wp2_with fail
      refine (HO.out _ HR_3.out).mono ?_
      rintro e w4 ⟨A4, c4, rfl, hc4, hC4, hb4⟩
      have HB4 := Aside0.mk (below_then HB3.out HB3.out.size hb4)
      have HR_4 := Aside0.mk (Kd.C_below HR_3.out hb4)
      have HD_4 := Aside0.mk (Kd.C_below HD_3.out hb4)
      have KQ_4 := Aside0.mk (Kd.C_below KQ_3.out hb4)
      have OQ_4 := Aside0.mk (hC4)
      clear hb4
      clear hC4
      go_wp2_with fail
      refine (HI.out _ HR_4.out HD_4.out).mono ?_
      rintro e w5 ⟨rfl, hb5⟩
      have HB5 := Aside0.mk (below_then HB4.out HB4.out.size hb5)
      have HR_5 := Aside0.mk (Kd.C_below HR_4.out hb5)
      have HD_5 := Aside0.mk (Kd.C_below HD_4.out hb5)
      have KQ_5 := Aside0.mk (Kd.C_below KQ_4.out hb5)
      have OQ_5 := Aside0.mk (Kd.C_below OQ_4.out hb5)
      clear hb5
      go_wp2_with fail
      refine (HM.out _ HR_5.out).mono ?_
      rintro e w6 ⟨rfl, hb6⟩
      have HB6 := Aside0.mk (below_then HB5.out HB5.out.size hb6)
      have HR_6 := Aside0.mk (Kd.C_below HR_5.out hb6)
      have HD_6 := Aside0.mk (Kd.C_below HD_5.out hb6)
      have KQ_6 := Aside0.mk (Kd.C_below KQ_5.out hb6)
      have OQ_6 := Aside0.mk (Kd.C_below OQ_5.out hb6)
      clear hb6
      have HI3 := HI2.out A3 c3 (ints rk) w6 HR_6.out (by rw [ints_length]; exact KQ_6.out) (by rw [ints_length]; exact hc3) (by rw [ints_length]; omega)
      rw [HFk.out, ints_length] at HI3
      have HI4 := Aside0.mk HI3
      clear HI3
      go_wp2_with fail
      refine (HI4.out).mono ?_
      rintro e w7 ⟨rfl, hb7⟩
      have HB7 := Aside0.mk (below_then HB6.out HB6.out.size hb7)
      have HR_7 := Aside0.mk (Kd.C_below HR_6.out hb7)
      have HD_7 := Aside0.mk (Kd.C_below HD_6.out hb7)
      have KQ_7 := Aside0.mk (Kd.C_below KQ_6.out hb7)
      have OQ_7 := Aside0.mk (Kd.C_below OQ_6.out hb7)
      clear hb7
      have HOQ := OQ_7
      go_wp2_with fail
      obtain ⟨W, rfl⟩ : ∃ W : World, W = w7 := ⟨_, rfl⟩
      go_loopw [17] (fun v wr => ∃ i : Nat, i ≤ ro.length ∧ v = .int .i64 (i : Int) ∧ Aside0 (Below W.heap.size W wr)) (fun v _ => ro.length - (intOf v).toNat)
      case atStart => exact ⟨0, Nat.zero_le _, rfl, ⟨Below.refl _ _⟩⟩
      case round =>
        obtain ⟨i, hi, rfl, HBr⟩ := hrel
        by_cases hil : i < ro.length
        · obtain ⟨j, hj⟩ : ∃ j, (i + 1) % ro.length = j := ⟨_, rfl⟩
          have hjl : j < ro.length := by rw [← hj]; exact Nat.mod_lt _ (by omega)
          have hro : ro.length = (ints ro).length := (ints_length ro).symm
          obtain ⟨ao, e0, ci⟩ := Kd.at_int (Kd.C_below HOQ.out HBr.out) (i : Int) (by omega) (by omega)
          obtain ⟨ao', e0', cj⟩ := Kd.at_int (Kd.C_below HOQ.out HBr.out) (j : Int) (by omega) (by omega)
          rw [e0] at e0'
          cases e0'
          obtain rfl := e0
          rw [rd_ints, Int.toNat_natCast] at ci cj
          have hlt := HOdd.out.lt i hil
          have harc := HOdd.out.arc i hil
          rw [hj] at harc
          have em : Int.tmod ((i : Int) + 1) (ro.length : Int) = (j : Int) := by rw [Int.tmod_eq_emod_of_nonneg (by omega), ← hj]; first | exact (Int.natCast_mod (i + 1) ro.length).symm | exact (Int.natCast_emod (i + 1) ro.length).symm | (push_cast; rfl)
          obtain ⟨x, hx⟩ : ∃ x, ro.getD i 0 = x := ⟨_, rfl⟩
          obtain ⟨y, hy⟩ : ∃ y, ro.getD j 0 = y := ⟨_, rfl⟩
          rw [hx] at ci hlt
          rw [hx, hy] at harc
          rw [hy] at cj
          have HArc := Aside0.mk (fun (w : World) h1 => HA.out x y harc w h1)
          have hxn : decide (n ≤ (x : Int)) = false := by rw [decide_eq_false_iff_not]; omega
          have ew : IntKind.i64.wrap ((i : Int) + 1) = (i : Int) + 1 := wr62 _ (by omega) (by have := HOdd.out.len; omega)
          have i0 : (0 : Int) ≤ i := by omega
          have i1 : (i : Int) < ro.length := by omega
          have j0 : (0 : Int) ≤ j := by omega
          have j1 : (j : Int) < ro.length := by omega
          have hlen99 := HOdd.out.len
          have hz1 : ¬ ((ro.length : Int) = 0) := by omega
          have hz2 : ¬ ro = [] := fun e => by rw [e] at hil; simp at hil
          have hz3 : ((ro.length : Int) == 0) = false := beq_eq_false_iff_ne.2 hz1
          have ci' : wr.drew.cell? (ao.add i) = some (.int .i64 (x : Nat)) := ci
          have cj' : wr.drew.cell? (ao.add j) = some (.int .i64 (y : Nat)) := cj
          have ib := World.block_lt_of_cell? wr.drew _ ci'
          have jb := World.block_lt_of_cell? wr.drew _ cj'
          have HCells := Aside0.mk (And.intro ci' (And.intro cj' (And.intro ib jb)))
          have HRx := Aside0.mk (Kd.C_below HR_7.out (below_drew HBr.out))
          clear hx hy hj hro harc hlt ci' cj' ib jb
          go_wp2_with fail
          go_region_held3 (fun w' => w'.cell? (ao.add i) = some (.int .i64 (x : Nat)) ∧ w'.cell? (ao.add j) = some (.int .i64 (y : Nat))) (first | go_keep)
            (first | (go_at_call 43; refine (HArc.out _ HRx.out).mono ?_; rintro e w2 ⟨rfl, hb2⟩; have HB2 := Aside0.mk (below_then (below_drew HBr.out) (below_drew HBr.out).size hb2); have ci2 : w2.cell? (ao.add i) = some (.int .i64 (x : Nat)) := (hb2.cell HCells.out.2.2.1).trans HCells.out.1; have cj2 : w2.cell? (ao.add j) = some (.int .i64 (y : Nat)) := (hb2.cell HCells.out.2.2.2).trans HCells.out.2.1; clear hb2))
          go_wp2_with fail
          go_roundw
          case rel => exact ⟨i + 1, by omega, by go_num, HB2⟩
          case measure => simp [intOf]; try omega
        · obtain rfl : i = ro.length := by omega
          have HBW := Aside0.mk (below_then HB7.out HB7.out.size HBr.out)
          have HRX := Aside0.mk (Kd.C_below HR_7.out HBr.out)
          have hodd := HOdd.out.odd
          have hlen99 := HOdd.out.len
          have em2 : ((ro.length : Int) % 2 == 0) = false := by rw [beq_eq_false_iff_ne]; omega
          have em3 : (Int.tmod (ro.length : Int) 2 == 0) = false := by rw [beq_eq_false_iff_ne, Int.tmod_eq_emod_of_nonneg (by omega)]; omega
          clear hodd
          go_wp2_with fail
          refine (alive_any _).mono ?_
          rintro e w21 ⟨rfl, hb21⟩
          have HB21 := Aside0.mk (below_then HBW.out HBW.out.size hb21)
          have HR_21 := Aside0.mk (Kd.C_below HRX.out hb21)
          clear hb21
          go_wp2_with fail
          go_ret
          exact ⟨rfl, HB21.out⟩
    · --
      go_enter Try.func13, Try.ntmps13
      go_wp2_with fail
      refine (HF.out).mono ?_
      rintro e w1 ⟨rfl, hb1⟩
      have HB1 := Aside0.mk (hb1)
      have HR_1 := Aside0.mk (Kd.C_below HR.out hb1)
      have HD_1 := Aside0.mk (Kd.C_below HD.out hb1)
      clear hb1
      go_wp2_with fail
      refine (HV.out _ HR_1.out).mono ?_
      rintro e w2 ⟨rfl, hb2⟩
      have HB2 := Aside0.mk (below_then HB1.out HB1.out.size hb2)
      have HR_2 := Aside0.mk (Kd.C_below HR_1.out hb2)
      have HD_2 := Aside0.mk (Kd.C_below HD_1.out hb2)
      clear hb2
      go_wp2_with fail
      refine (HK.out _ HR_2.out).mono ?_
      rintro e w3 ⟨A3, c3, rfl, hc3, hC3, hb3⟩
      have HB3 := Aside0.mk (below_then HB2.out HB2.out.size hb3)
      have HR_3 := Aside0.mk (Kd.C_below HR_2.out hb3)
      have HD_3 := Aside0.mk (Kd.C_below HD_2.out hb3)
      have KQ_3 := Aside0.mk (hC3)
      clear hb3
      clear hC3
      go_wp2_with fail
      refine (HO.out _ HR_3.out).mono ?_
      rintro e w4 ⟨A4, c4, rfl, hc4, hC4, hb4⟩
      have HB4 := Aside0.mk (below_then HB3.out HB3.out.size hb4)
      have HR_4 := Aside0.mk (Kd.C_below HR_3.out hb4)
      have HD_4 := Aside0.mk (Kd.C_below HD_3.out hb4)
      have KQ_4 := Aside0.mk (Kd.C_below KQ_3.out hb4)
      have OQ_4 := Aside0.mk (hC4)
      clear hb4
      clear hC4
      go_wp2_with fail
      refine (HI.out _ HR_4.out HD_4.out).mono ?_
      rintro e w5 ⟨rfl, hb5⟩
      have HB5 := Aside0.mk (below_then HB4.out HB4.out.size hb5)
      have HR_5 := Aside0.mk (Kd.C_below HR_4.out hb5)
      have HD_5 := Aside0.mk (Kd.C_below HD_4.out hb5)
      have KQ_5 := Aside0.mk (Kd.C_below KQ_4.out hb5)
      have OQ_5 := Aside0.mk (Kd.C_below OQ_4.out hb5)
      clear hb5
      go_wp2_with fail
      refine (HM.out _ HR_5.out).mono ?_
      rintro e w6 ⟨rfl, hb6⟩
      have HB6 := Aside0.mk (below_then HB5.out HB5.out.size hb6)
      have HR_6 := Aside0.mk (Kd.C_below HR_5.out hb6)
      have HD_6 := Aside0.mk (Kd.C_below HD_5.out hb6)
      have KQ_6 := Aside0.mk (Kd.C_below KQ_5.out hb6)
      have OQ_6 := Aside0.mk (Kd.C_below OQ_5.out hb6)
      clear hb6
      have HI3 := HI2.out A3 c3 (ints rk) w6 HR_6.out (by rw [ints_length]; exact KQ_6.out) (by rw [ints_length]; exact hc3) (by rw [ints_length]; omega)
      rw [HFk.out, ints_length] at HI3
      have HI4 := Aside0.mk HI3
      clear HI3
      go_wp2_with fail
      refine (HI4.out).mono ?_
      rintro e w7 ⟨rfl, hb7⟩
      have HB7 := Aside0.mk (below_then HB6.out HB6.out.size hb7)
      have HR_7 := Aside0.mk (Kd.C_below HR_6.out hb7)
      have HD_7 := Aside0.mk (Kd.C_below HD_6.out hb7)
      have KQ_7 := Aside0.mk (Kd.C_below KQ_6.out hb7)
      have OQ_7 := Aside0.mk (Kd.C_below OQ_6.out hb7)
      clear hb7
      have HOQ := OQ_7
      go_wp2_with fail
      obtain ⟨W, rfl⟩ : ∃ W : World, W = w7 := ⟨_, rfl⟩
      go_loopw [17] (fun v wr => ∃ i : Nat, i ≤ ro.length ∧ v = .int .i64 (i : Int) ∧ Aside0 (Below W.heap.size W wr)) (fun v _ => ro.length - (intOf v).toNat)
      case atStart => exact ⟨0, Nat.zero_le _, rfl, ⟨Below.refl _ _⟩⟩
      case round =>
        obtain ⟨i, hi, rfl, HBr⟩ := hrel
        by_cases hil : i < ro.length
        · obtain ⟨j, hj⟩ : ∃ j, (i + 1) % ro.length = j := ⟨_, rfl⟩
          have hjl : j < ro.length := by rw [← hj]; exact Nat.mod_lt _ (by omega)
          have hro : ro.length = (ints ro).length := (ints_length ro).symm
          obtain ⟨ao, e0, ci⟩ := Kd.at_int (Kd.C_below HOQ.out HBr.out) (i : Int) (by omega) (by omega)
          obtain ⟨ao', e0', cj⟩ := Kd.at_int (Kd.C_below HOQ.out HBr.out) (j : Int) (by omega) (by omega)
          rw [e0] at e0'
          cases e0'
          obtain rfl := e0
          rw [rd_ints, Int.toNat_natCast] at ci cj
          have hlt := HOdd.out.lt i hil
          have harc := HOdd.out.arc i hil
          rw [hj] at harc
          have em : Int.tmod ((i : Int) + 1) (ro.length : Int) = (j : Int) := by rw [Int.tmod_eq_emod_of_nonneg (by omega), ← hj]; first | exact (Int.natCast_mod (i + 1) ro.length).symm | exact (Int.natCast_emod (i + 1) ro.length).symm | (push_cast; rfl)
          obtain ⟨x, hx⟩ : ∃ x, ro.getD i 0 = x := ⟨_, rfl⟩
          obtain ⟨y, hy⟩ : ∃ y, ro.getD j 0 = y := ⟨_, rfl⟩
          rw [hx] at ci hlt
          rw [hx, hy] at harc
          rw [hy] at cj
          have HArc := Aside0.mk (fun (w : World) h1 => HA.out x y harc w h1)
          have hxn : decide (n ≤ (x : Int)) = false := by rw [decide_eq_false_iff_not]; omega
          have ew : IntKind.i64.wrap ((i : Int) + 1) = (i : Int) + 1 := wr62 _ (by omega) (by have := HOdd.out.len; omega)
          have i0 : (0 : Int) ≤ i := by omega
          have i1 : (i : Int) < ro.length := by omega
          have j0 : (0 : Int) ≤ j := by omega
          have j1 : (j : Int) < ro.length := by omega
          have hlen99 := HOdd.out.len
          have hz1 : ¬ ((ro.length : Int) = 0) := by omega
          have hz2 : ¬ ro = [] := fun e => by rw [e] at hil; simp at hil
          have hz3 : ((ro.length : Int) == 0) = false := beq_eq_false_iff_ne.2 hz1
          have ci' : wr.drew.cell? (ao.add i) = some (.int .i64 (x : Nat)) := ci
          have cj' : wr.drew.cell? (ao.add j) = some (.int .i64 (y : Nat)) := cj
          have ib := World.block_lt_of_cell? wr.drew _ ci'
          have jb := World.block_lt_of_cell? wr.drew _ cj'
          have HCells := Aside0.mk (And.intro ci' (And.intro cj' (And.intro ib jb)))
          have HRx := Aside0.mk (Kd.C_below HR_7.out (below_drew HBr.out))
          clear hx hy hj hro harc hlt ci' cj' ib jb
          go_wp2_with fail
          go_region_held3 (fun w' => w'.cell? (ao.add i) = some (.int .i64 (x : Nat)) ∧ w'.cell? (ao.add j) = some (.int .i64 (y : Nat))) (first | go_keep)
            (first | (go_at_call 43; refine (HArc.out _ HRx.out).mono ?_; rintro e w2 ⟨rfl, hb2⟩; have HB2 := Aside0.mk (below_then (below_drew HBr.out) (below_drew HBr.out).size hb2); have ci2 : w2.cell? (ao.add i) = some (.int .i64 (x : Nat)) := (hb2.cell HCells.out.2.2.1).trans HCells.out.1; have cj2 : w2.cell? (ao.add j) = some (.int .i64 (y : Nat)) := (hb2.cell HCells.out.2.2.2).trans HCells.out.2.1; clear hb2))
          go_wp2_with fail
          go_roundw
          case rel => exact ⟨i + 1, by omega, by go_num, HB2⟩
          case measure => simp [intOf]; try omega
        · obtain rfl : i = ro.length := by omega
          have HBW := Aside0.mk (below_then HB7.out HB7.out.size HBr.out)
          have HRX := Aside0.mk (Kd.C_below HR_7.out HBr.out)
          have hodd := HOdd.out.odd
          have hlen99 := HOdd.out.len
          have em2 : ((ro.length : Int) % 2 == 0) = false := by rw [beq_eq_false_iff_ne]; omega
          have em3 : (Int.tmod (ro.length : Int) 2 == 0) = false := by rw [beq_eq_false_iff_ne, Int.tmod_eq_emod_of_nonneg (by omega)]; omega
          clear hodd
          go_wp2_with fail
          refine (HP.out _ HRX.out).mono ?_
          rintro e w21 ⟨A21, c21, rfl, _, _, hb21⟩
          have HB21 := Aside0.mk (below_then HBW.out HBW.out.size hb21)
          have HR_21 := Aside0.mk (Kd.C_below HRX.out hb21)
          clear hb21
          go_wp2_with fail
          refine (alive_any _).mono ?_
          rintro e w22 ⟨rfl, hb22⟩
          have HB22 := Aside0.mk (below_then HB21.out HB21.out.size hb22)
          have HR_22 := Aside0.mk (Kd.C_below HR_21.out hb22)
          clear hb22
          go_wp2_with fail
          go_ret
          exact ⟨rfl, HB22.out⟩
  | true =>
    rw [hb] at HI
    have hless : lessB st (ints rk) = false := by
      obtain ⟨r, hr, h2⟩ := is_kernel he hb
      rw [hk] at hr; cases hr; exact h2
    have HL := Aside0.mk (fun (B : Option Addr) (q : Nat) (w : World) h3 h4 h5 => less_any st (ints rk) D d B q w (by omega) (by rw [ints_length]; omega) h3 hd h4 h5)
    rw [hless, ints_length] at HL
    generalize isB n.toNat (townO l) = isb at *
    clear hb hp he hk ho hmp hf1 hless
    by_cases hn8 : 8 < n
    · --
      go_enter Try.func13, Try.ntmps13
      go_wp2_with fail
      refine (HF.out).mono ?_
      rintro e w1 ⟨rfl, hb1⟩
      have HB1 := Aside0.mk (hb1)
      have HR_1 := Aside0.mk (Kd.C_below HR.out hb1)
      have HD_1 := Aside0.mk (Kd.C_below HD.out hb1)
      clear hb1
      go_wp2_with fail
      refine (HV.out _ HR_1.out).mono ?_
      rintro e w2 ⟨rfl, hb2⟩
      have HB2 := Aside0.mk (below_then HB1.out HB1.out.size hb2)
      have HR_2 := Aside0.mk (Kd.C_below HR_1.out hb2)
      have HD_2 := Aside0.mk (Kd.C_below HD_1.out hb2)
      clear hb2
      go_wp2_with fail
      refine (HK.out _ HR_2.out).mono ?_
      rintro e w3 ⟨A3, c3, rfl, hc3, hC3, hb3⟩
      have HB3 := Aside0.mk (below_then HB2.out HB2.out.size hb3)
      have HR_3 := Aside0.mk (Kd.C_below HR_2.out hb3)
      have HD_3 := Aside0.mk (Kd.C_below HD_2.out hb3)
      have KQ_3 := Aside0.mk (hC3)
      clear hb3
      clear hC3
      go_wp2_with fail
      refine (HO.out _ HR_3.out).mono ?_
      rintro e w4 ⟨A4, c4, rfl, hc4, hC4, hb4⟩
      have HB4 := Aside0.mk (below_then HB3.out HB3.out.size hb4)
      have HR_4 := Aside0.mk (Kd.C_below HR_3.out hb4)
      have HD_4 := Aside0.mk (Kd.C_below HD_3.out hb4)
      have KQ_4 := Aside0.mk (Kd.C_below KQ_3.out hb4)
      have OQ_4 := Aside0.mk (hC4)
      clear hb4
      clear hC4
      go_wp2_with fail
      refine (HI.out _ HR_4.out HD_4.out).mono ?_
      rintro e w5 ⟨rfl, hb5⟩
      have HB5 := Aside0.mk (below_then HB4.out HB4.out.size hb5)
      have HR_5 := Aside0.mk (Kd.C_below HR_4.out hb5)
      have HD_5 := Aside0.mk (Kd.C_below HD_4.out hb5)
      have KQ_5 := Aside0.mk (Kd.C_below KQ_4.out hb5)
      have OQ_5 := Aside0.mk (Kd.C_below OQ_4.out hb5)
      clear hb5
      go_wp2_with fail
      refine (HM.out _ HR_5.out).mono ?_
      rintro e w6 ⟨rfl, hb6⟩
      have HB6 := Aside0.mk (below_then HB5.out HB5.out.size hb6)
      have HR_6 := Aside0.mk (Kd.C_below HR_5.out hb6)
      have HD_6 := Aside0.mk (Kd.C_below HD_5.out hb6)
      have KQ_6 := Aside0.mk (Kd.C_below KQ_5.out hb6)
      have OQ_6 := Aside0.mk (Kd.C_below OQ_5.out hb6)
      clear hb6
      go_wp2_with fail
      refine (HL.out A3 c3 _ HD_6.out KQ_6.out hc3).mono ?_
      rintro e w7 ⟨rfl, hb7⟩
      have HB7 := Aside0.mk (below_then HB6.out HB6.out.size hb7)
      have HR_7 := Aside0.mk (Kd.C_below HR_6.out hb7)
      have HD_7 := Aside0.mk (Kd.C_below HD_6.out hb7)
      have KQ_7 := Aside0.mk (Kd.C_below KQ_6.out hb7)
      have OQ_7 := Aside0.mk (Kd.C_below OQ_6.out hb7)
      clear hb7
      have HI3 := HI2.out A3 c3 (ints rk) w7 HR_7.out (by rw [ints_length]; exact KQ_7.out) (by rw [ints_length]; exact hc3) (by rw [ints_length]; omega)
      rw [HFk.out, ints_length] at HI3
      have HI4 := Aside0.mk HI3
      clear HI3
      go_wp2_with fail
      refine (HI4.out).mono ?_
      rintro e w8 ⟨rfl, hb8⟩
      have HB8 := Aside0.mk (below_then HB7.out HB7.out.size hb8)
      have HR_8 := Aside0.mk (Kd.C_below HR_7.out hb8)
      have HD_8 := Aside0.mk (Kd.C_below HD_7.out hb8)
      have KQ_8 := Aside0.mk (Kd.C_below KQ_7.out hb8)
      have OQ_8 := Aside0.mk (Kd.C_below OQ_7.out hb8)
      clear hb8
      have HOQ := OQ_8
      go_wp2_with fail
      obtain ⟨W, rfl⟩ : ∃ W : World, W = w8 := ⟨_, rfl⟩
      go_loopw [17] (fun v wr => ∃ i : Nat, i ≤ ro.length ∧ v = .int .i64 (i : Int) ∧ Aside0 (Below W.heap.size W wr)) (fun v _ => ro.length - (intOf v).toNat)
      case atStart => exact ⟨0, Nat.zero_le _, rfl, ⟨Below.refl _ _⟩⟩
      case round =>
        obtain ⟨i, hi, rfl, HBr⟩ := hrel
        by_cases hil : i < ro.length
        · obtain ⟨j, hj⟩ : ∃ j, (i + 1) % ro.length = j := ⟨_, rfl⟩
          have hjl : j < ro.length := by rw [← hj]; exact Nat.mod_lt _ (by omega)
          have hro : ro.length = (ints ro).length := (ints_length ro).symm
          obtain ⟨ao, e0, ci⟩ := Kd.at_int (Kd.C_below HOQ.out HBr.out) (i : Int) (by omega) (by omega)
          obtain ⟨ao', e0', cj⟩ := Kd.at_int (Kd.C_below HOQ.out HBr.out) (j : Int) (by omega) (by omega)
          rw [e0] at e0'
          cases e0'
          obtain rfl := e0
          rw [rd_ints, Int.toNat_natCast] at ci cj
          have hlt := HOdd.out.lt i hil
          have harc := HOdd.out.arc i hil
          rw [hj] at harc
          have em : Int.tmod ((i : Int) + 1) (ro.length : Int) = (j : Int) := by rw [Int.tmod_eq_emod_of_nonneg (by omega), ← hj]; first | exact (Int.natCast_mod (i + 1) ro.length).symm | exact (Int.natCast_emod (i + 1) ro.length).symm | (push_cast; rfl)
          obtain ⟨x, hx⟩ : ∃ x, ro.getD i 0 = x := ⟨_, rfl⟩
          obtain ⟨y, hy⟩ : ∃ y, ro.getD j 0 = y := ⟨_, rfl⟩
          rw [hx] at ci hlt
          rw [hx, hy] at harc
          rw [hy] at cj
          have HArc := Aside0.mk (fun (w : World) h1 => HA.out x y harc w h1)
          have hxn : decide (n ≤ (x : Int)) = false := by rw [decide_eq_false_iff_not]; omega
          have ew : IntKind.i64.wrap ((i : Int) + 1) = (i : Int) + 1 := wr62 _ (by omega) (by have := HOdd.out.len; omega)
          have i0 : (0 : Int) ≤ i := by omega
          have i1 : (i : Int) < ro.length := by omega
          have j0 : (0 : Int) ≤ j := by omega
          have j1 : (j : Int) < ro.length := by omega
          have hlen99 := HOdd.out.len
          have hz1 : ¬ ((ro.length : Int) = 0) := by omega
          have hz2 : ¬ ro = [] := fun e => by rw [e] at hil; simp at hil
          have hz3 : ((ro.length : Int) == 0) = false := beq_eq_false_iff_ne.2 hz1
          have ci' : wr.drew.cell? (ao.add i) = some (.int .i64 (x : Nat)) := ci
          have cj' : wr.drew.cell? (ao.add j) = some (.int .i64 (y : Nat)) := cj
          have ib := World.block_lt_of_cell? wr.drew _ ci'
          have jb := World.block_lt_of_cell? wr.drew _ cj'
          have HCells := Aside0.mk (And.intro ci' (And.intro cj' (And.intro ib jb)))
          have HRx := Aside0.mk (Kd.C_below HR_8.out (below_drew HBr.out))
          clear hx hy hj hro harc hlt ci' cj' ib jb
          go_wp2_with fail
          go_region_held3 (fun w' => w'.cell? (ao.add i) = some (.int .i64 (x : Nat)) ∧ w'.cell? (ao.add j) = some (.int .i64 (y : Nat))) (first | go_keep)
            (first | (go_at_call 43; refine (HArc.out _ HRx.out).mono ?_; rintro e w2 ⟨rfl, hb2⟩; have HB2 := Aside0.mk (below_then (below_drew HBr.out) (below_drew HBr.out).size hb2); have ci2 : w2.cell? (ao.add i) = some (.int .i64 (x : Nat)) := (hb2.cell HCells.out.2.2.1).trans HCells.out.1; have cj2 : w2.cell? (ao.add j) = some (.int .i64 (y : Nat)) := (hb2.cell HCells.out.2.2.2).trans HCells.out.2.1; clear hb2))
          go_wp2_with fail
          go_roundw
          case rel => exact ⟨i + 1, by omega, by go_num, HB2⟩
          case measure => simp [intOf]; try omega
        · obtain rfl : i = ro.length := by omega
          have HBW := Aside0.mk (below_then HB8.out HB8.out.size HBr.out)
          have HRX := Aside0.mk (Kd.C_below HR_8.out HBr.out)
          have hodd := HOdd.out.odd
          have hlen99 := HOdd.out.len
          have em2 : ((ro.length : Int) % 2 == 0) = false := by rw [beq_eq_false_iff_ne]; omega
          have em3 : (Int.tmod (ro.length : Int) 2 == 0) = false := by rw [beq_eq_false_iff_ne, Int.tmod_eq_emod_of_nonneg (by omega)]; omega
          clear hodd
          go_wp2_with fail
          refine (alive_any _).mono ?_
          rintro e w21 ⟨rfl, hb21⟩
          have HB21 := Aside0.mk (below_then HBW.out HBW.out.size hb21)
          have HR_21 := Aside0.mk (Kd.C_below HRX.out hb21)
          clear hb21
          go_wp2_with fail
          go_ret
          exact ⟨rfl, HB21.out⟩
    · --
      go_enter Try.func13, Try.ntmps13
      go_wp2_with fail
      refine (HF.out).mono ?_
      rintro e w1 ⟨rfl, hb1⟩
      have HB1 := Aside0.mk (hb1)
      have HR_1 := Aside0.mk (Kd.C_below HR.out hb1)
      have HD_1 := Aside0.mk (Kd.C_below HD.out hb1)
      clear hb1
      go_wp2_with fail
      refine (HV.out _ HR_1.out).mono ?_
      rintro e w2 ⟨rfl, hb2⟩
      have HB2 := Aside0.mk (below_then HB1.out HB1.out.size hb2)
      have HR_2 := Aside0.mk (Kd.C_below HR_1.out hb2)
      have HD_2 := Aside0.mk (Kd.C_below HD_1.out hb2)
      clear hb2
      go_wp2_with fail
      refine (HK.out _ HR_2.out).mono ?_
      rintro e w3 ⟨A3, c3, rfl, hc3, hC3, hb3⟩
      have HB3 := Aside0.mk (below_then HB2.out HB2.out.size hb3)
      have HR_3 := Aside0.mk (Kd.C_below HR_2.out hb3)
      have HD_3 := Aside0.mk (Kd.C_below HD_2.out hb3)
      have KQ_3 := Aside0.mk (hC3)
      clear hb3
      clear hC3
      go_wp2_with fail
      refine (HO.out _ HR_3.out).mono ?_
      rintro e w4 ⟨A4, c4, rfl, hc4, hC4, hb4⟩
      have HB4 := Aside0.mk (below_then HB3.out HB3.out.size hb4)
      have HR_4 := Aside0.mk (Kd.C_below HR_3.out hb4)
      have HD_4 := Aside0.mk (Kd.C_below HD_3.out hb4)
      have KQ_4 := Aside0.mk (Kd.C_below KQ_3.out hb4)
      have OQ_4 := Aside0.mk (hC4)
      clear hb4
      clear hC4
      go_wp2_with fail
      refine (HI.out _ HR_4.out HD_4.out).mono ?_
      rintro e w5 ⟨rfl, hb5⟩
      have HB5 := Aside0.mk (below_then HB4.out HB4.out.size hb5)
      have HR_5 := Aside0.mk (Kd.C_below HR_4.out hb5)
      have HD_5 := Aside0.mk (Kd.C_below HD_4.out hb5)
      have KQ_5 := Aside0.mk (Kd.C_below KQ_4.out hb5)
      have OQ_5 := Aside0.mk (Kd.C_below OQ_4.out hb5)
      clear hb5
      go_wp2_with fail
      refine (HM.out _ HR_5.out).mono ?_
      rintro e w6 ⟨rfl, hb6⟩
      have HB6 := Aside0.mk (below_then HB5.out HB5.out.size hb6)
      have HR_6 := Aside0.mk (Kd.C_below HR_5.out hb6)
      have HD_6 := Aside0.mk (Kd.C_below HD_5.out hb6)
      have KQ_6 := Aside0.mk (Kd.C_below KQ_5.out hb6)
      have OQ_6 := Aside0.mk (Kd.C_below OQ_5.out hb6)
      clear hb6
      go_wp2_with fail
      refine (HL.out A3 c3 _ HD_6.out KQ_6.out hc3).mono ?_
      rintro e w7 ⟨rfl, hb7⟩
      have HB7 := Aside0.mk (below_then HB6.out HB6.out.size hb7)
      have HR_7 := Aside0.mk (Kd.C_below HR_6.out hb7)
      have HD_7 := Aside0.mk (Kd.C_below HD_6.out hb7)
      have KQ_7 := Aside0.mk (Kd.C_below KQ_6.out hb7)
      have OQ_7 := Aside0.mk (Kd.C_below OQ_6.out hb7)
      clear hb7
      have HI3 := HI2.out A3 c3 (ints rk) w7 HR_7.out (by rw [ints_length]; exact KQ_7.out) (by rw [ints_length]; exact hc3) (by rw [ints_length]; omega)
      rw [HFk.out, ints_length] at HI3
      have HI4 := Aside0.mk HI3
      clear HI3
      go_wp2_with fail
      refine (HI4.out).mono ?_
      rintro e w8 ⟨rfl, hb8⟩
      have HB8 := Aside0.mk (below_then HB7.out HB7.out.size hb8)
      have HR_8 := Aside0.mk (Kd.C_below HR_7.out hb8)
      have HD_8 := Aside0.mk (Kd.C_below HD_7.out hb8)
      have KQ_8 := Aside0.mk (Kd.C_below KQ_7.out hb8)
      have OQ_8 := Aside0.mk (Kd.C_below OQ_7.out hb8)
      clear hb8
      have HOQ := OQ_8
      go_wp2_with fail
      obtain ⟨W, rfl⟩ : ∃ W : World, W = w8 := ⟨_, rfl⟩
      go_loopw [17] (fun v wr => ∃ i : Nat, i ≤ ro.length ∧ v = .int .i64 (i : Int) ∧ Aside0 (Below W.heap.size W wr)) (fun v _ => ro.length - (intOf v).toNat)
      case atStart => exact ⟨0, Nat.zero_le _, rfl, ⟨Below.refl _ _⟩⟩
      case round =>
        obtain ⟨i, hi, rfl, HBr⟩ := hrel
        by_cases hil : i < ro.length
        · obtain ⟨j, hj⟩ : ∃ j, (i + 1) % ro.length = j := ⟨_, rfl⟩
          have hjl : j < ro.length := by rw [← hj]; exact Nat.mod_lt _ (by omega)
          have hro : ro.length = (ints ro).length := (ints_length ro).symm
          obtain ⟨ao, e0, ci⟩ := Kd.at_int (Kd.C_below HOQ.out HBr.out) (i : Int) (by omega) (by omega)
          obtain ⟨ao', e0', cj⟩ := Kd.at_int (Kd.C_below HOQ.out HBr.out) (j : Int) (by omega) (by omega)
          rw [e0] at e0'
          cases e0'
          obtain rfl := e0
          rw [rd_ints, Int.toNat_natCast] at ci cj
          have hlt := HOdd.out.lt i hil
          have harc := HOdd.out.arc i hil
          rw [hj] at harc
          have em : Int.tmod ((i : Int) + 1) (ro.length : Int) = (j : Int) := by rw [Int.tmod_eq_emod_of_nonneg (by omega), ← hj]; first | exact (Int.natCast_mod (i + 1) ro.length).symm | exact (Int.natCast_emod (i + 1) ro.length).symm | (push_cast; rfl)
          obtain ⟨x, hx⟩ : ∃ x, ro.getD i 0 = x := ⟨_, rfl⟩
          obtain ⟨y, hy⟩ : ∃ y, ro.getD j 0 = y := ⟨_, rfl⟩
          rw [hx] at ci hlt
          rw [hx, hy] at harc
          rw [hy] at cj
          have HArc := Aside0.mk (fun (w : World) h1 => HA.out x y harc w h1)
          have hxn : decide (n ≤ (x : Int)) = false := by rw [decide_eq_false_iff_not]; omega
          have ew : IntKind.i64.wrap ((i : Int) + 1) = (i : Int) + 1 := wr62 _ (by omega) (by have := HOdd.out.len; omega)
          have i0 : (0 : Int) ≤ i := by omega
          have i1 : (i : Int) < ro.length := by omega
          have j0 : (0 : Int) ≤ j := by omega
          have j1 : (j : Int) < ro.length := by omega
          have hlen99 := HOdd.out.len
          have hz1 : ¬ ((ro.length : Int) = 0) := by omega
          have hz2 : ¬ ro = [] := fun e => by rw [e] at hil; simp at hil
          have hz3 : ((ro.length : Int) == 0) = false := beq_eq_false_iff_ne.2 hz1
          have ci' : wr.drew.cell? (ao.add i) = some (.int .i64 (x : Nat)) := ci
          have cj' : wr.drew.cell? (ao.add j) = some (.int .i64 (y : Nat)) := cj
          have ib := World.block_lt_of_cell? wr.drew _ ci'
          have jb := World.block_lt_of_cell? wr.drew _ cj'
          have HCells := Aside0.mk (And.intro ci' (And.intro cj' (And.intro ib jb)))
          have HRx := Aside0.mk (Kd.C_below HR_8.out (below_drew HBr.out))
          clear hx hy hj hro harc hlt ci' cj' ib jb
          go_wp2_with fail
          go_region_held3 (fun w' => w'.cell? (ao.add i) = some (.int .i64 (x : Nat)) ∧ w'.cell? (ao.add j) = some (.int .i64 (y : Nat))) (first | go_keep)
            (first | (go_at_call 43; refine (HArc.out _ HRx.out).mono ?_; rintro e w2 ⟨rfl, hb2⟩; have HB2 := Aside0.mk (below_then (below_drew HBr.out) (below_drew HBr.out).size hb2); have ci2 : w2.cell? (ao.add i) = some (.int .i64 (x : Nat)) := (hb2.cell HCells.out.2.2.1).trans HCells.out.1; have cj2 : w2.cell? (ao.add j) = some (.int .i64 (y : Nat)) := (hb2.cell HCells.out.2.2.2).trans HCells.out.2.1; clear hb2))
          go_wp2_with fail
          go_roundw
          case rel => exact ⟨i + 1, by omega, by go_num, HB2⟩
          case measure => simp [intOf]; try omega
        · obtain rfl : i = ro.length := by omega
          have HBW := Aside0.mk (below_then HB8.out HB8.out.size HBr.out)
          have HRX := Aside0.mk (Kd.C_below HR_8.out HBr.out)
          have hodd := HOdd.out.odd
          have hlen99 := HOdd.out.len
          have em2 : ((ro.length : Int) % 2 == 0) = false := by rw [beq_eq_false_iff_ne]; omega
          have em3 : (Int.tmod (ro.length : Int) 2 == 0) = false := by rw [beq_eq_false_iff_ne, Int.tmod_eq_emod_of_nonneg (by omega)]; omega
          clear hodd
          go_wp2_with fail
          refine (HP.out _ HRX.out).mono ?_
          rintro e w21 ⟨A21, c21, rfl, _, _, hb21⟩
          have HB21 := Aside0.mk (below_then HBW.out HBW.out.size hb21)
          have HR_21 := Aside0.mk (Kd.C_below HRX.out hb21)
          clear hb21
          go_wp2_with fail
          refine (alive_any _).mono ?_
          rintro e w22 ⟨rfl, hb22⟩
          have HB22 := Aside0.mk (below_then HB21.out HB21.out.size hb22)
          have HR_22 := Aside0.mk (Kd.C_below HR_21.out hb22)
          clear hb22
          go_wp2_with fail
          go_ret
          exact ⟨rfl, HB22.out⟩
set_option maxHeartbeats 3200000 in
set_option maxRecDepth 100000 in
theorem law13_any (n : Int) (A : Option Addr) (c : Nat) (l : List S43) (D : Option Addr) (d : Nat) (st : List Int) (w : World) (hr : Kd.C k43 w A l.length l) (hc : l.length ≤ c) (hr2 : Kd.C (Kd.int .i64) w D st.length st) (hd : st.length ≤ d) :
    Calls Try.prog 13 #[.int .i64 n, .slice A l.length c, .slice D st.length d] w fun e w' => e = .returned (.bool true) ∧ Below w.heap.size w w' := by
  have HF := Aside0.mk (few_any A D c d l st w hr hc hr2 hd)
  cases hf : (decide (l.length ≤ 150) && decide (st.length ≤ 50)) with
  | false =>
    rw [hf] at HF
    clear hf
    go_enter Try.func13, Try.ntmps13
    go_wp2_with fail
    refine (HF.out).mono ?_
    rintro e w1 ⟨rfl, hb1⟩
    have HB1 := Aside0.mk (hb1)
    clear hb1
    go_wp2_with fail
    refine (alive_any _).mono ?_
    rintro e w2 ⟨rfl, hb2⟩
    have HB2 := Aside0.mk (below_then HB1.out HB1.out.size hb2)
    clear hb2
    go_wp2_with fail
    go_ret
    exact ⟨rfl, HB2.out⟩
  | true =>
    have hf' := hf
    rw [Bool.and_eq_true, decide_eq_true_eq, decide_eq_true_eq] at hf'
    obtain ⟨hf1, hf2⟩ := hf'
    by_cases he : ofE n l = 0
    · cases hk : kerO n l with
      | none => exact law13_kn n A c l D d st w hr hc hr2 hd he hf1 hf2 hk
      | some rk =>
        cases ho : oddO n l with
        | none => exact law13_ksn n A c l D d st w hr hc hr2 hd he hf1 hf2 rk hk ho
        | some ro =>
          cases hp : perS n.toNat (townO l) with
          | none => exact law13_kssn n A c l D d st w hr hc hr2 hd he hf1 hf2 rk hk ro ho hp
          | some b => exact law13_ksss n A c l D d st w hr hc hr2 hd he hf1 hf2 rk hk ro ho b hp
    · rw [hf] at HF
      have HR := Aside0.mk hr
      have hev : (ofE n l == 0) = false := beq_eq_false_iff_ne.2 he
      have HV := Aside0.mk (fun (w : World) h1 => valid_any n A c l w h1 hc)
      rw [hev] at HV
      clear he hev hf hr hr2
      go_enter Try.func13, Try.ntmps13
      go_wp2_with fail
      refine (HF.out).mono ?_
      rintro e w1 ⟨rfl, hb1⟩
      have HB1 := Aside0.mk (hb1)
      have HR_1 := Aside0.mk (Kd.C_below HR.out hb1)
      clear hb1
      go_wp2_with fail
      refine (HV.out _ HR_1.out).mono ?_
      rintro e w2 ⟨rfl, hb2⟩
      have HB2 := Aside0.mk (below_then HB1.out HB1.out.size hb2)
      have HR_2 := Aside0.mk (Kd.C_below HR_1.out hb2)
      clear hb2
      go_wp2_with fail
      refine (alive_any _).mono ?_
      rintro e w3 ⟨rfl, hb3⟩
      have HB3 := Aside0.mk (below_then HB2.out HB2.out.size hb3)
      have HR_3 := Aside0.mk (Kd.C_below HR_2.out hb3)
      clear hb3
      go_wp2_with fail
      go_ret
      exact ⟨rfl, HB3.out⟩
end Go.Proofs.Ytmobefgnkiboaaa.Im

namespace Go.Proofs.Ytmobefgnkiboaaa.Im
open Go.RowKit Go.ChangeShapes Go.WideShapes Go.Proofs.YtmobefgnkiboaaaW.PrintWords Go.Proofs.YtmobefgnkiboaaaW.PrintLast Go.Proofs.YtmobefgnkiboaaaW.PrintMore
theorem open_arcs {H : Type} {enc : TypeId × Value → H} {w : World} {base : Nat} {spare : Nat → Bool} {held : Bool} {fuel : Nat} {a : Option Addr} {len cap : Nat} {x : DataW H × List MemPlace}
    (h : DataW.trod enc Try.prog w base spare held fuel 22 [.slice a len cap] = some x) :
    ∃ l : List S43, len = l.length ∧ Kd.C k43 w a l.length l ∧ l.length ≤ cap := by
  rcases Go.Deep.open_slice_pairs Try.underlying22 Try.underlying43 (by kernel_rfl) rfl rfl (by kernel_rfl) (by kernel_rfl) h with ⟨hcs, _⟩ | ⟨b, len', cap', m, n, V0, V1, D0, D1, P0, P1, hcs, hb, hl, hm, hmm, hx, hi⟩
  · simp at hcs
    obtain ⟨rfl, rfl, rfl⟩ := hcs
    exact ⟨[], rfl, ⟨rfl, by simp, fun h => absurd h (by simp)⟩, Nat.le_refl _⟩
  · simp at hcs
    obtain ⟨rfl, rfl, rfl⟩ := hcs
    have hlm : len ≤ m := by rw [hmm]; split <;> omega
    have hint : ∀ i, i < m → ∃ p q : Int, V0 i = .int .i64 p ∧ V1 i = .int .i64 q := fun i him => by
      obtain ⟨_, _, t0, t1⟩ := hi i him
      obtain ⟨p, hp, _⟩ := DataW.trod_int Try.underlying3 t0
      obtain ⟨q, hq, _⟩ := DataW.trod_int Try.underlying3 t1
      exact ⟨p, q, by simpa using hp, by simpa using hq⟩
    let g : Nat → S43 := fun i => ⟨match V0 i with | .int _ p => p | _ => 0, match V1 i with | .int _ q => q | _ => 0⟩
    have hg0 : ∀ i, i < m → V0 i = .int .i64 (g i).f0 := fun i him => by
      obtain ⟨p, q, hp, hq⟩ := hint i him
      simp [g, hp]
    have hg1 : ∀ i, i < m → V1 i = .int .i64 (g i).f1 := fun i him => by
      obtain ⟨p, q, hp, hq⟩ := hint i him
      simp [g, hq]
    refine ⟨(List.range len).map g, by simp, ?_, by simpa using hl⟩
    have hll : ((List.range len).map g).length = len := by simp
    rw [hll]
    refine ⟨hll, by unfold maxLen at hm; omega, fun _ => ⟨b, rfl, fun j p hp => ?_⟩⟩
    have hj : j < len := by
      rcases Nat.lt_or_ge j len with h' | h'
      · exact h'
      · rw [List.getElem?_eq_none (by rw [hll]; exact h')] at hp; cases hp
    have hp' : p = g j := by
      rw [List.getElem?_map, List.getElem?_range hj] at hp
      simpa using hp.symm
    subst hp'
    refine ⟨_, rfl, k43_mk w (g j), fun i u hu => ?_⟩
    obtain ⟨c0, c1, _, _⟩ := hi j (by omega)
    rw [hg0 j (by omega)] at c0
    rw [hg1 j (by omega)] at c1
    match i, hu with
    | 0, hu => simp at hu; subst hu; exact c0
    | 1, hu => simp at hu; subst hu; exact c1
theorem open_nums {H : Type} {enc : TypeId × Value → H} {w : World} {base : Nat} {spare : Nat → Bool} {held : Bool} {fuel : Nat} {a : Option Addr} {len cap : Nat} {x : DataW H × List MemPlace}
    (h : DataW.trod enc Try.prog w base spare held fuel 25 [.slice a len cap] = some x) :
    ∃ l : List Int, len = l.length ∧ Kd.C (Kd.int .i64) w a l.length l ∧ l.length ≤ cap := by
  rcases open_ints Try.underlying25 Try.underlying3 (by kernel_rfl) h with ⟨hcs, _⟩ | ⟨b, len', cap', zs, hcs, hb, hl, hm, hz, hx, hcell, hwz⟩
  · simp at hcs
    obtain ⟨rfl, rfl, rfl⟩ := hcs
    exact ⟨[], rfl, ⟨rfl, by simp, fun h => absurd h (by simp)⟩, Nat.le_refl _⟩
  · simp at hcs
    obtain ⟨rfl, rfl, rfl⟩ := hcs
    have hlz : len ≤ zs.length := by rw [hz]; split <;> omega
    have hll : (zs.take len).length = len := by rw [List.length_take]; omega
    refine ⟨zs.take len, hll.symm, ?_, by rw [hll]; exact hl⟩
    rw [hll]
    refine ⟨hll, by unfold maxLen at hm; omega, fun _ => ⟨b, rfl, fun j p hp => ?_⟩⟩
    have hj : j < len := by
      rcases Nat.lt_or_ge j len with h' | h'
      · exact h'
      · rw [List.getElem?_eq_none (by rw [hll]; exact h')] at hp; cases hp
    have hp' : p = zs.getD j 0 := by
      rw [List.getElem?_take_of_lt hj] at hp
      rw [List.getD_eq_getElem?_getD, hp]; rfl
    subst hp'
    refine ⟨_, rfl, rfl, fun i u hu => ?_⟩
    match i, hu with
    | 0, hu =>
      simp at hu; subst hu
      have := hcell j (by omega)
      rw [Nat.add_zero, show j * (Kd.int IntKind.i64).sz = j from Nat.mul_one j]
      exact this
end Go.Proofs.Ytmobefgnkiboaaa.Im

