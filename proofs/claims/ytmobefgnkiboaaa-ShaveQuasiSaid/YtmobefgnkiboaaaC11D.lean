/- Further parts of the same walk: contracts of the functions that the law reaches, each under the conditions that it states. -/
import Derived.Test.YtmobefgnkiboaaaC11C
namespace Go.Proofs.Ytmobefgnkiboaaa.Im
open Go.RowKit Go.Proofs.YtmobefgnkiboaaaW.PrintWords Go.Proofs.YtmobefgnkiboaaaW.PrintLast Go.Proofs.YtmobefgnkiboaaaW.PrintMore
set_option linter.unusedVariables false
/-- The formula of a person by those to whom an arc leads. -/
def letB (j : Nat) : UInt8 := UInt8.ofNat (97 + j)
def frmL : List Nat → List UInt8
  | [] => [49]
  | [j] => [33, letB j]
  | j :: k :: rest => [40, 33, letB j, 38] ++ frmL (k :: rest) ++ [41]
theorem frmL_len : ∀ l, (frmL l).length ≤ 6 * l.length + 1
  | [] => by simp [frmL]
  | [j] => by simp [frmL]
  | j :: k :: rest => by
    have := frmL_len (k :: rest)
    simp only [frmL, List.length_append, List.length_cons, List.length_nil] at *
    omega
def bytesA (l : List UInt8) : ByteArray := ⟨l.toArray⟩
theorem bytesA_size (l : List UInt8) : (bytesA l).size = l.length := by simp [bytesA, ByteArray.size]
theorem bytesA_append (a b : List UInt8) : bytesA a ++ bytesA b = bytesA (a ++ b) := by
  apply ByteArray.ext
  simp [bytesA, ByteArray.data_append]
theorem joinF (a b : List UInt8) : (Lib.join ([bytesA [40], bytesA a, bytesA [38], bytesA b, bytesA [41]].map (·.data.toList)) (bytesA []).data.toList) = [40] ++ a ++ [38] ++ b ++ [41] := by
  simp [Lib.join, bytesA, List.intercalate, List.intersperse]
theorem frm_step (M : List Nat) (q j : Nat) (h : M.drop q = j :: M.drop (q + 1)) (hq : q + 1 < M.length) : frmL (M.drop q) = [40] ++ [33, letB j] ++ [38] ++ frmL (M.drop (q + 1)) ++ [41] := by
  rw [h]
  have h2 : M.drop (q + 1) = M[q + 1] :: M.drop (q + 1 + 1) := List.drop_eq_getElem_cons hq
  rw [h2]
  simp [frmL]
theorem frm_last (M : List Nat) (q j : Nat) (h : M.drop q = j :: M.drop (q + 1)) (hq : q + 1 = M.length) : frmL (M.drop q) = [33, letB j] := by
  rw [h, hq, List.drop_length]; rfl
def sentB (o : List Nat) (i : Nat) : ByteArray := bytesA (frmL (memL (o.getD i 0)))
def sentAll (n : Nat) (o : List Nat) : Option (List ByteArray) := if (List.range n).all (fun i => decide ((sentB o i).size ≤ 40)) then some ((List.range n).map (sentB o)) else none
def SentR (w : World) (r : Option (List ByteArray)) (e : Ending) (w' : World) : Prop :=
  match r with
  | some l => ∃ v, e = .returned (.tuple #[v, .int .i64 0]) ∧ Kd.R Kd.string 9 w' w.heap.size (fun _ => True) v l ∧ Below w.heap.size w w'
  | none => e = .returned (.tuple #[.slice none 0 0, .int .i64 8]) ∧ Below w.heap.size w w'
def SentPost (n : Int) (l : List S43) (w : World) (e : Ending) (w' : World) : Prop :=
  if ofE n l = 0 then SentR w (if 10 < n then none else sentAll n.toNat (townO l)) e w'
  else e = .returned (.tuple #[.slice none 0 0, .int .i64 (ofE n l)]) ∧ Below w.heap.size w w'
theorem run_rune0 (w : World) : (convert 21 9 (.int .i32 97)).run Try.prog w = .ok (.string (bytesA [letB 0])) w := by kernel_rfl
theorem run_rune1 (w : World) : (convert 21 9 (.int .i32 98)).run Try.prog w = .ok (.string (bytesA [letB 1])) w := by kernel_rfl
theorem run_rune2 (w : World) : (convert 21 9 (.int .i32 99)).run Try.prog w = .ok (.string (bytesA [letB 2])) w := by kernel_rfl
theorem run_rune3 (w : World) : (convert 21 9 (.int .i32 100)).run Try.prog w = .ok (.string (bytesA [letB 3])) w := by kernel_rfl
theorem run_rune4 (w : World) : (convert 21 9 (.int .i32 101)).run Try.prog w = .ok (.string (bytesA [letB 4])) w := by kernel_rfl
theorem run_rune5 (w : World) : (convert 21 9 (.int .i32 102)).run Try.prog w = .ok (.string (bytesA [letB 5])) w := by kernel_rfl
theorem run_rune6 (w : World) : (convert 21 9 (.int .i32 103)).run Try.prog w = .ok (.string (bytesA [letB 6])) w := by kernel_rfl
theorem run_rune7 (w : World) : (convert 21 9 (.int .i32 104)).run Try.prog w = .ok (.string (bytesA [letB 7])) w := by kernel_rfl
theorem run_rune8 (w : World) : (convert 21 9 (.int .i32 105)).run Try.prog w = .ok (.string (bytesA [letB 8])) w := by kernel_rfl
theorem run_rune9 (w : World) : (convert 21 9 (.int .i32 106)).run Try.prog w = .ok (.string (bytesA [letB 9])) w := by kernel_rfl
theorem run_rune10 (w : World) : (convert 21 9 (.int .i32 107)).run Try.prog w = .ok (.string (bytesA [letB 10])) w := by kernel_rfl
theorem run_rune11 (w : World) : (convert 21 9 (.int .i32 108)).run Try.prog w = .ok (.string (bytesA [letB 11])) w := by kernel_rfl
theorem run_rune (j : Nat) (hj : j < 12) (w : World) : (convert 21 9 (.int .i32 (97 + (j : Int)))).run Try.prog w = .ok (.string (bytesA [letB j])) w := by
  rcases j with _|_|_|_|_|_|_|_|_|_|_|_|j
  · exact run_rune0 w
  · exact run_rune1 w
  · exact run_rune2 w
  · exact run_rune3 w
  · exact run_rune4 w
  · exact run_rune5 w
  · exact run_rune6 w
  · exact run_rune7 w
  · exact run_rune8 w
  · exact run_rune9 w
  · exact run_rune10 w
  · exact run_rune11 w
  · omega
theorem l_rune {ops : Array Oper} {Q : Exit → Act → World → Prop} {rest : List Oper} {o : Oper} {a : Act} {w : World} (hgd : o.guard = none) {x : Operand} (ho : o.op = .convert 21 9 x) (j : Nat) (hj : j < 12) (r : Int) (hx : a.eval x = .int .i32 r) (hr : r = 97 + (j : Int))
    (h : wpList Try.prog ops Q rest (a.put o.dst (.string (bytesA [letB j]))) w) : wpList Try.prog ops Q (o :: rest) a w := by
  subst hr
  refine wpList_plain hgd fun K hK => ?_
  have hl := run_rune j hj w
  have e : (execOp a.eval o).run Try.prog w = .ok (.value (.string (bytesA [letB j]))) w := by
    unfold execOp
    simp [ho, hx, hl, Result.andThen]
  unfold Oper.wp
  rw [e]
  exact hK _ _ h
set_option maxHeartbeats 3200000 in
set_option maxRecDepth 100000 in
theorem Sentences_any (n : Int) (A : Option Addr) (c : Nat) (l : List S43) (w : World) (hr : Kd.C k43 w A l.length l) (hc : l.length ≤ c) :
    Calls Try.prog 19 #[.int .i64 n, .slice A l.length c] w (SentPost n l w) := by
  have HO := Aside0.mk (of_A n A c l w hr hc)
  have HZ := Aside0.mk (ofA_size n l)
  have H1 := Aside0.mk (ofA_one n l)
  clear hr hc
  by_cases he : ofE n l = 0
  · have ok := okt_of he
    have hA : ofA n l = tnN n.toNat (townO l) := by rw [ofA, if_pos he]
    have hK : SentPost n l w = SentR w (if 10 < n then none else sentAll n.toNat (townO l)) := by funext e w'; simp [SentPost, he]
    have hnn := (ofE_ok he).1
    rw [hK]
    rw [hA] at HO HZ H1
    rw [he] at HO
    clear he hA hK
    generalize townO l = o at *
    obtain ⟨m, rfl⟩ : ∃ m : Nat, n = m := ⟨n.toNat, by omega⟩
    rw [Int.toNat_natCast] at *
    have HK := Aside0.mk ok
    have n12 := ok.n12
    clear ok hnn
    by_cases h10 : (10 : Int) < m
    · rw [if_pos h10]
      go_enter Try.func19, Try.ntmps19
      go_wp2_with fail
      refine HO.out.mono ?_
      rintro e w1 ⟨rfl, hb⟩
      have HB := Aside0.mk hb
      clear hb HO
      go_wp2_with (refine wpList_store_row rfl 50 _ _ rfl w1.heap.size (tnN m o) rfl rfl 50 (tnN 0 zero12) (heap_alloc_new w1 _) (by rw [info50, HZ.out]) (by rw [HZ.out]; rfl) H1.out ?_; rw [World.setRow_alloc_new])
      go_ret2
      exact ⟨rfl, below_alloc HB.out _⟩
    · rw [if_neg h10]
      have hd10 : decide ((10 : Int) < m) = false := decide_eq_false h10
      obtain ⟨R, hR⟩ : ∃ R, sentAll m o = R := ⟨_, rfl⟩
      rw [hR]
      have HR := Aside0.mk hR
      clear hR
      go_enter Try.func19, Try.ntmps19
      go_wp2_with fail
      refine HO.out.mono ?_
      rintro e w1 ⟨rfl, hb⟩
      have HB := Aside0.mk hb
      clear hb HO
      have HT : Aside0 (TnN (w1.alloc (.cells (tnN m o) 50)) w1.heap.size m o) := ⟨Blk.new _ _ _⟩
      have HB1 := Aside0.mk (below_alloc HB.out (.cells (tnN m o) 50))
      go_wp2_with (refine wpList_store_row rfl 50 _ _ rfl w1.heap.size (tnN m o) rfl rfl 50 (tnN 0 zero12) (heap_alloc_new w1 _) (by rw [info50, HZ.out]) (by rw [HZ.out]; rfl) H1.out ?_; rw [World.setRow_alloc_new])
      generalize w1.alloc (.cells (tnN m o) 50) = W0 at *
      generalize w1.heap.size = g6 at *
      clear HB
      have HW0 := HB1.out.size
      go_loopw [8, 28] (fun v8 v wr => ∃ i : Nat, i ≤ m ∧ v = .int .i64 (i : Int) ∧ Aside0 (Kd.R Kd.string 9 wr w.heap.size (fun _ => True) v8 ((List.range i).map (sentB o))) ∧ Aside0 (∀ j, j < i → (sentB o j).size ≤ 40) ∧ Aside0 (Below w.heap.size w wr) ∧ Aside0 (TnN wr g6 m o)) (fun _ v _ => m - (intOf v).toNat)
      case atStart => exact ⟨0, Nat.zero_le _, rfl, ⟨Kd.R_nil _ _ _ _ _⟩, ⟨fun j hj => absurd hj (by omega)⟩, HB1, HT⟩
      case round =>
        obtain ⟨i, hi, rfl, HR8, HS, HBr, HTr⟩ := hrel
        by_cases him : i < m
        · have co := TnN.cellS HTr.out i (by rw [HK.out.len]; omega)
          rw [Nat.add_comm] at co
          have hnx : o.getD i 0 < 4096 := Nat.lt_of_lt_of_le (HK.out.lt _) (Nat.pow_le_pow_right (by decide) HK.out.n12 : 2 ^ m ≤ 2 ^ 12)
          have hse : sentB o i = bytesA (frmL (memL (o.getD i 0))) := rfl
          generalize o.getD i 0 = nx at *
          have hml := memL_len nx
          have HML := Aside0.mk (fun x (hx : x ∈ memL nx) => memL_lt hx)
          have HM := Aside0.mk (fun w => members_any nx w hnx)
          rw [show memL nx = mem12 nx 0 from rfl] at *
          generalize mem12 nx 0 = M at *
          have hlm : (ints M).length = M.length := ints_length M
          have i0 : (0 : Int) ≤ i := by omega
          have i1 : (i : Int) < 12 := by omega
          have HSE := Aside0.mk hse
          clear hse
          go_wp2_with fail
          refine (HM.out _).mono ?_
          rintro e w3 ⟨v3, rfl, hr3, hb3⟩
          obtain ⟨A3, c3, rfl, hl3, hC3⟩ := Kd.R_reads hr3
          have HB3 := Aside0.mk (below_then HBr.out HBr.out.size hb3)
          have HT3 := Aside0.mk (Blk.later HTr.out hb3)
          have HR3 := Aside0.mk (Kd.R_below HR8.out hb3)
          have HC3 := Aside0.mk hC3
          rw [hlm] at HC3 hl3 ⊢
          clear hr3 hb3 hC3 HM co
          go_wp2_with fail
          go_loopw [11, 12] (fun v11 v wr => ∃ k : Nat, k ≤ M.length ∧ v = .int .i64 ((k : Int) - 1) ∧ v11 = .string (bytesA (frmL (M.drop k))) ∧ Aside0 (Below w3.heap.size w3 wr)) (fun _ v _ => (intOf v + 1).toNat)
          case atStart => exact ⟨M.length, Nat.le_refl _, rfl, by rw [List.drop_length]; rfl, ⟨Below.refl _ _⟩⟩
          case round =>
            obtain ⟨k, hk, rfl, rfl, HBx⟩ := hrel
            by_cases hk0 : 1 ≤ k
            · obtain ⟨q, rfl⟩ : ∃ q, k = q + 1 := ⟨k - 1, by omega⟩
              rw [show (((q + 1 : Nat) : Int) - 1) = (q : Int) by omega]
              obtain ⟨ad, rfl, cx⟩ := Kd.at_int HC3.out (q : Int) (by omega) (by omega)
              replace cx := (HBx.out.cell (World.block_lt_of_cell? w3 _ cx)).trans cx
              rw [rd_ints, Int.toNat_natCast] at cx
              have hje : M.getD q 0 = M[q] := by rw [List.getD_eq_getElem?_getD, List.getElem?_eq_getElem (by omega)]; rfl
              have hj12 : M[q] < 12 := HML.out _ (List.getElem_mem (by omega))
              rw [hje] at cx
              have hdr : M.drop q = M[q] :: M.drop (q + 1) := List.drop_eq_getElem_cons (by omega)
              have HDR := Aside0.mk hdr
              generalize M[q] = j at *
              clear hdr hje
              have hsl : (frmL (M.drop (q + 1))).length ≤ 73 := by have := frmL_len (M.drop (q + 1)); rw [List.length_drop] at this; omega
              by_cases hkm : q + 1 = M.length
              · have neq : ((q : Int) == ((M.length : Int) - 1)) = true := beq_iff_eq.2 (by omega)
                have hf := frm_last M q j HDR.out hkm
                have HF := Aside0.mk hf
                have hown : bytesA [33] ++ bytesA [letB j] = bytesA [33, letB j] := bytesA_append _ _
                have HOW := Aside0.mk hown
                clear hf hown
                generalize frmL (M.drop (q + 1)) = so at *
                go_wp2_with (refine l_rune rfl rfl j hj12 _ rfl rfl ?_)
                go_roundw
                case rel => exact ⟨q, by omega, rfl, by rw [HF.out]; exact congrArg Value.string HOW.out, HBx⟩
                case measure => simp [intOf]; try omega
              · have neq : ((q : Int) == ((M.length : Int) - 1)) = false := beq_eq_false_iff_ne.2 (by omega)
                have hf := frm_step M q j HDR.out (by omega)
                have HF := Aside0.mk hf
                clear hf
                generalize frmL (M.drop (q + 1)) = so at *
                have HOW := Aside0.mk (show bytesA [33] ++ bytesA [letB j] = bytesA [33, letB j] from bytesA_append [33] [letB j])
                have HJN := Aside0.mk (joinF [33, letB j] so)
                go_wp2_with (refine l_rune rfl rfl j hj12 _ rfl rfl ?_)
                have hbw : Below wr.heap.size wr (wr.alloc (.cells #[.string (bytesA [40]), .string (bytesA [33, letB j]), .string (bytesA [38]), .string (bytesA so), .string (bytesA [41])] 9)) := below_alloc (Below.refl _ _) _
                have hJ := Try.strings_Join wr.heap.size 0 5 [bytesA [40], bytesA [33, letB j], bytesA [38], bytesA so, bytesA [41]] (bytesA []) (wr.alloc (.cells #[.string (bytesA [40]), .string (bytesA [33, letB j]), .string (bytesA [38]), .string (bytesA so), .string (bytesA [41])] 9))
                  (fun jj x hx => by
                    rw [Nat.zero_add, (Blk.new wr 9 _).cell jj]
                    match jj, hx with
                    | 0, hx => simp at hx; subst hx; rfl
                    | 1, hx => simp at hx; subst hx; rfl
                    | 2, hx => simp at hx; subst hx; rfl
                    | 3, hx => simp at hx; subst hx; rfl
                    | 4, hx => simp at hx; subst hx; rfl
                    | (n + 5), hx => simp at hx)
                  (by simp) (by simp) (by simp) (by rw [HJN.out]; simp; omega)
                rw [HJN.out, ← HF.out, ← HOW.out] at hJ
                refine hJ.mono ?_
                rintro e w5 ⟨rfl, hb5⟩
                rw [HOW.out] at hb5
                have HB5 := Aside0.mk (below_then HBx.out HBx.out.size (below_then hbw hbw.size hb5))
                clear hbw hJ hb5
                go_wp2_with fail
                go_roundw
                case rel => exact ⟨q, by omega, rfl, rfl, HB5⟩
                case measure => simp [intOf]; try omega
            · obtain rfl : k = 0 := by omega
              rw [List.drop_zero]
              have kz : ¬ (0 : Int) ≤ ((0 : Nat) : Int) - 1 := by omega
              have hfl := frmL_len M
              have hse := HSE.out
              have HS1 : Aside0 ((sentB o i).size = (frmL M).length) := ⟨by rw [hse, bytesA_size]⟩
              generalize frmL M = fM at *
              have hsz : ((bytesA fM).size : Int) = (fM.length : Int) := by rw [bytesA_size]
              have HRx := Aside0.mk (Kd.R_below HR3.out HBx.out)
              have HTx := Aside0.mk (Blk.later HT3.out HBx.out)
              have HBxx := Aside0.mk (below_then HB3.out HB3.out.size HBx.out)
              have HSE2 := Aside0.mk hse
              generalize hsb : bytesA fM = sb at *
              have hs2 : sb.size = fM.length := by rw [← hsb, bytesA_size]
              clear hsb hsz hse
              by_cases h40 : fM.length ≤ 40
              · have h40' : ¬ (40 < (sb.size : Int)) := by omega
                have HS2 : Aside0 (∀ j, j < i + 1 → (sentB o j).size ≤ 40) := ⟨fun j hj => by
                  rcases Nat.lt_or_ge j i with h | h
                  · exact HS.out j h
                  · obtain rfl : j = i := by omega
                    rw [HS1.out]; exact h40⟩
                have HRG : Aside0 ((List.range (i + 1)).map (sentB o) = (List.range i).map (sentB o) ++ [sb]) := ⟨by rw [List.range_succ, List.map_append, ← HSE2.out]; rfl⟩
                have hLl : ((List.range i).map (sentB o)).length = i := by simp
                generalize (List.range i).map (sentB o) = L at *
                have HL := Aside0.mk hLl
                clear hLl hs2
                go_wp2_with (first | ((with_reducible refine gate_builtin (b := .append) (xs := #[.tmp 64, .tmp 66]) rfl ?_); at_builtin; refine Kd.R_append Kd.string (w0 := w) w.heap.size rfl (.tmp 64) (.tmp 66) 31 9 (.string ⟨#[]⟩) 16 rfl Try.underlying31 info9 rfl (by decide) (by omega) u8 L sb [.string sb] (fun _ => True) (fun _ => False) rfl rfl rfl (fun _ hk => hk.elim) (fun _ _ => trivial) HRx.out HBxx.out HBxx.out.size (by have := HL.out; omega) ?_; intro v9 w9 ho hb hg hat; have HO9 := Aside0.mk ho; have HB9 := Aside0.mk hb; have HT9 := Aside0.mk (Blk.gb HTx.out hg (Kd.R_ne HRx.out HTx.out (by decide))); clear ho hb hg hat))
                go_roundw
                case rel => exact ⟨i + 1, by omega, by go_num, ⟨by rw [HRG.out]; exact HO9.out⟩, HS2, HB9, HT9⟩
                case measure => simp [intOf]; try omega
              · have h40' : 40 < (sb.size : Int) := by omega
                have HF := Aside0.mk (show R = none by
                  rw [← HR.out, sentAll, if_neg]
                  rw [List.all_eq_true]
                  intro h
                  have := h i (List.mem_range.2 him)
                  rw [decide_eq_true_eq, HS1.out] at this
                  exact h40 this)
                clear hs2
                go_wp2_with fail
                go_ret2
                rw [HF.out]
                exact ⟨rfl, HBxx.out⟩
        · obtain rfl : i = m := by omega
          have HF := Aside0.mk (show R = some ((List.range i).map (sentB o)) by
            rw [← HR.out, sentAll, if_pos]
            rw [List.all_eq_true]
            exact fun x hx => decide_eq_true (HS.out x (List.mem_range.1 hx)))
          go_wp2_with fail
          go_ret2
          rw [HF.out]
          exact ⟨_, rfl, HR8.out, HBr.out⟩
  · have hK : SentPost n l w = fun e w' => e = .returned (.tuple #[.slice none 0 0, .int .i64 (ofE n l)]) ∧ Below w.heap.size w w' := by funext e w'; simp [SentPost, he]
    rw [hK]
    have hb : (ofE n l != 0) = true := bne_iff_ne.2 he
    have hb' : (ofE n l == 0) = false := beq_eq_false_iff_ne.2 he
    clear hK he
    generalize ofE n l = er at *
    go_enter Try.func19, Try.ntmps19
    go_wp2_with fail
    refine HO.out.mono ?_
    rintro e w1 ⟨rfl, hb⟩
    have HB := Aside0.mk hb
    clear hb HO
    go_wp2_with (refine wpList_store_row rfl 50 _ _ rfl w1.heap.size (ofA n l) rfl rfl 50 (tnN 0 zero12) (heap_alloc_new w1 _) (by rw [info50, HZ.out]) (by rw [HZ.out]; rfl) H1.out ?_)
    go_ret2
    exact ⟨rfl, by rw [World.setRow_alloc_new]; exact below_alloc HB.out _⟩
end Go.Proofs.Ytmobefgnkiboaaa.Im
namespace Go.Proofs.Ytmobefgnkiboaaa.Im
open Go.RowKit Go.Proofs.YtmobefgnkiboaaaW.PrintWords Go.Proofs.YtmobefgnkiboaaaW.PrintLast Go.Proofs.YtmobefgnkiboaaaW.PrintMore
set_option linter.unusedVariables false
theorem run_slice2 (w : World) (A : Option Addr) (n c : Nat) (hn : 2 ≤ n) (hc : n ≤ c) :
    (Instr.sliceAt 22 (.slice A n c) none (some (.int .i64 2)) none).run Try.prog w = .ok (.slice A 2 c) w := by
  have hu : Try.prog.underlying 22 = some (.slice (Try.prog.elem 22)) := by rw [Try.underlying22]; rfl
  rw [run_sliceAt_slice w _ _ _ _ _ hu, run_slice_h w 22 A n c hu .i64 2 (by omega) (by omega)]
  have hs : (sizeOf (Try.prog.elem 22)).run Try.prog w = .ok 2 w := by kernel_rfl
  rw [hs]
  simp only [Result.andThen_ok, sliced]
  cases A with
  | none => simp
  | some b => simp [add_zero]
theorem l_slice2 {ops : Array Oper} {Q : Exit → Act → World → Prop} {rest : List Oper} {o : Oper} {a : Act} {w : World} (hgd : o.guard = none) {x : Operand} (ho : o.op = .slice 22 x none (some (.const (.int .i64 2))) none) (A : Option Addr) (n c : Nat) (hx : a.eval x = .slice A n c) (hn : 2 ≤ n) (hc : n ≤ c)
    (h : wpList Try.prog ops Q rest (a.put o.dst (.slice A 2 c)) w) : wpList Try.prog ops Q (o :: rest) a w := by
  refine wpList_plain hgd fun K hK => ?_
  have hl := run_slice2 w A n c hn hc
  have hy : a.eval (.const (.int .i64 2)) = .int .i64 2 := rfl
  have e : (execOp a.eval o).run Try.prog w = .ok (.value (.slice A 2 c)) w := by
    unfold execOp
    simp [ho, hx, Result.andThen]
    rw [hy, hl]
  unfold Oper.wp
  rw [e]
  exact hK _ _ h
def ring3 : List S43 := [⟨0, 1⟩, ⟨1, 2⟩, ⟨2, 0⟩]
def ring4 : List S43 := [⟨0, 1⟩, ⟨1, 2⟩, ⟨2, 3⟩, ⟨3, 0⟩]
def path3 : List S43 := [⟨0, 1⟩, ⟨1, 2⟩]
theorem ring3_f : pomadelaw02_ring.f 5 3 = some ring3 := by kernel_rfl
theorem ring4_f : pomadelaw02_ring.f 6 4 = some ring4 := by kernel_rfl
theorem k3_E : ofE 3 ring3 = 0 := by decide
theorem k4_E : ofE 4 ring4 = 0 := by decide
theorem p3_E : ofE 3 path3 = 0 := by decide
theorem k3_T : townO ring3 = [2, 4, 1, 0, 0, 0, 0, 0, 0, 0, 0, 0] := by decide
theorem k4_T : townO ring4 = [2, 4, 8, 1, 0, 0, 0, 0, 0, 0, 0, 0] := by decide
theorem p3_T : townO path3 = [2, 4, 0, 0, 0, 0, 0, 0, 0, 0, 0, 0] := by decide
theorem k3_none : firstS (fun s => kerB (3 : Int).toNat (townO ring3) s (2 ^ (3 : Int).toNat - 1)) (3 : Int).toNat = none := by rw [k3_T]; decide
theorem k3_odd : oddS (3 : Int).toNat (townO ring3) = some [0, 1, 2] := by rw [k3_T]; decide
theorem k4_many : manyK (4 : Int).toNat (townO ring4) (2 ^ (4 : Int).toNat) = 2 := by rw [k4_T]; decide
theorem p3_rank : rankF (townO path3) (3 : Int).toNat [] = some [0, 1, 0] := by rw [p3_T]; decide
theorem p3_sent : sentAll (3 : Int).toNat (townO path3) = some [⟨#[33, 98]⟩, ⟨#[33, 99]⟩, ⟨#[49]⟩] := by rw [p3_T]; rfl
theorem ring_any (k : Nat) (n : Int) (r : List S43) (w : World) (h : pomadelaw02_ring.f k n = some r) :
    Calls Try.prog 44 #[.int .i64 n] w fun e w' => ∃ (A : Option Addr) (c : Nat), e = .returned (.slice A r.length c) ∧ r.length ≤ c ∧ Kd.C k43 w' A r.length r ∧ Below w.heap.size w w' :=
  (pomadelaw02_ring.calls k n r w h).mono fun e w' ⟨v, h1, h2, h3⟩ => by
    obtain ⟨A, c, rfl, hl, hC⟩ := Kd.R_reads h2
    exact ⟨A, c, h1, hl, hC, h3⟩
theorem Kernel_ring (A : Option Addr) (c : Nat) (w : World) (hr : Kd.C k43 w A 3 ring3) (hc : 3 ≤ c) :
    Calls Try.prog 23 #[.int .i64 3, .slice A 3 c] w fun e w' => e = .returned (.tuple #[.slice none 0 0, .int .i64 10]) ∧ Below w.heap.size w w' :=
  (Kernel_any 3 A c ring3 w hr hc).mono fun e w' h => by
    unfold KernelPost at h
    rw [if_pos k3_E, k3_none] at h
    exact h
theorem Odd_ring (A : Option Addr) (c : Nat) (w : World) (hr : Kd.C k43 w A 3 ring3) (hc : 3 ≤ c) :
    Calls Try.prog 28 #[.int .i64 3, .slice A 3 c] w fun e w' => ∃ A c, e = .returned (.tuple #[.slice (some A) 3 c, .int .i64 0]) ∧ 3 ≤ c ∧ Kd.C (Kd.int .i64) w' (some A) 3 [0, 1, 2] ∧ Below w.heap.size w w' :=
  (Odd_any 3 A c ring3 w hr hc).mono fun e w' h => by
    unfold OddPost at h
    rw [if_pos k3_E, k3_odd] at h
    exact h
theorem Kernels_ring (A : Option Addr) (c : Nat) (w : World) (hr : Kd.C k43 w A 4 ring4) (hc : 4 ≤ c) :
    Calls Try.prog 24 #[.int .i64 4, .slice A 4 c] w fun e w' => e = .returned (.tuple #[.int .i64 2, .int .i64 0]) ∧ Below w.heap.size w w' :=
  (Kernels_any 4 A c ring4 w hr hc).mono fun e w' h => by
    unfold KernelsPost at h
    rw [if_pos k4_E, k4_many, k4_E] at h
    exact h
theorem Ranks_path (A : Option Addr) (c : Nat) (w : World) (hr : Kd.C k43 w A 2 path3) (hc : 2 ≤ c) :
    Calls Try.prog 16 #[.int .i64 3, .slice A 2 c] w fun e w' => ∃ A c, e = .returned (.tuple #[.slice (some A) 3 c, .int .i64 0]) ∧ 3 ≤ c ∧ Kd.C (Kd.int .i64) w' (some A) 3 [0, 1, 0] ∧ Below w.heap.size w w' :=
  (Ranks_any 3 A c path3 w hr hc).mono fun e w' h => by
    unfold RanksPost at h
    rw [if_pos p3_E, p3_rank] at h
    exact h
theorem Sent_path (A : Option Addr) (c : Nat) (w : World) (hr : Kd.C k43 w A 2 path3) (hc : 2 ≤ c) :
    Calls Try.prog 19 #[.int .i64 3, .slice A 2 c] w fun e w' => ∃ A c, e = .returned (.tuple #[.slice A 3 c, .int .i64 0]) ∧ 3 ≤ c ∧ Kd.C Kd.string w' A 3 [⟨#[33, 98]⟩, ⟨#[33, 99]⟩, ⟨#[49]⟩] ∧ Below w.heap.size w w' :=
  (Sentences_any 3 A c path3 w hr hc).mono fun e w' h => by
    unfold SentPost at h
    rw [if_pos p3_E, if_neg (by omega), p3_sent] at h
    obtain ⟨v, h1, h2, h3⟩ := h
    obtain ⟨A, c, rfl, hl, hC⟩ := Kd.R_reads h2
    exact ⟨A, c, h1, hl, hC, h3⟩
theorem same3 (a b c : Int) (A B : Option Addr) (c0 c1 : Nat) (w : World) (h0 : Kd.C (Kd.int .i64) w A 3 [a, b, c]) (h1 : Kd.C (Kd.int .i64) w B 3 [a, b, c]) (hc0 : 3 ≤ c0) (hc1 : 3 ≤ c1) :
    Calls Try.prog 18 #[.slice A 3 c0, .slice B 3 c1] w fun e w' => e = .returned (.bool true) ∧ Drawn0 w w' :=
  pomadelaw02_same.calls 6 A c0 [a, b, c] B c1 [a, b, c] true w h0 hc0 h1 hc1 (by
    have e1 : wrap64 1 = 1 := by unfold wrap64; omega
    have e2 : wrap64 2 = 2 := by unfold wrap64; omega
    have e3 : wrap64 3 = 3 := by unfold wrap64; omega
    simp [pomadelaw02_same.f, pomadelaw02_same.l0, e1, e2, e3, rd])
set_option maxHeartbeats 3200000 in
set_option maxRecDepth 100000 in
theorem alive_any (w : World) : Calls Try.prog 15 #[] w fun e w' => e = .returned (.bool true) ∧ Below w.heap.size w w' := by
  go_enter Try.func15, Try.ntmps15
  go_wp2_with fail
  refine (ring_any 5 3 ring3 _ ring3_f).mono ?_
  rintro e w1 ⟨A1, c1, rfl, hc1, hC1, hb1⟩
  have HB1 := Aside0.mk hb1
  have HC1 := Aside0.mk hC1
  clear hb1 hC1
  go_wp2_with fail
  refine (Kernel_ring A1 c1 _ HC1.out hc1).mono ?_
  rintro e w2 ⟨rfl, hb2⟩
  have HB2 := Aside0.mk (below_then HB1.out HB1.out.size hb2)
  clear hb2 HB1 HC1
  go_wp2_with fail
  refine (ring_any 5 3 ring3 _ ring3_f).mono ?_
  rintro e w3 ⟨A3, c3, rfl, hc3, hC3, hb3⟩
  have HB3 := Aside0.mk (below_then HB2.out HB2.out.size hb3)
  have HC3 := Aside0.mk hC3
  clear hb3 hC3 HB2
  go_wp2_with fail
  refine (Odd_ring A3 c3 _ HC3.out hc3).mono ?_
  rintro e w4 ⟨A4, c4, rfl, hc4, hC4, hb4⟩
  have HB4 := Aside0.mk (below_then HB3.out HB3.out.size hb4)
  have HC4 := Aside0.mk hC4
  clear hb4 hC4 HB3 HC3
  go_wp2_with fail
  refine (ring_any 6 4 ring4 _ ring4_f).mono ?_
  rintro e w5 ⟨A5, c5, rfl, hc5, hC5, hb5⟩
  have HB5 := Aside0.mk (below_then HB4.out HB4.out.size hb5)
  have HD5 := Aside0.mk (Kd.C_below HC4.out hb5)
  have HC5 := Aside0.mk hC5
  clear hb5 hC5 HB4 HC4
  go_wp2_with fail
  refine (Kernels_ring A5 c5 _ HC5.out hc5).mono ?_
  rintro e w6 ⟨rfl, hb6⟩
  have HB6 := Aside0.mk (below_then HB5.out HB5.out.size hb6)
  have HD6 := Aside0.mk (Kd.C_below HD5.out hb6)
  clear hb6 HB5 HC5 HD5
  go_wp2_with fail
  refine (ring_any 5 3 ring3 _ ring3_f).mono ?_
  rintro e w7 ⟨A7, c7, rfl, hc7, hC7, hb7⟩
  have HB7 := Aside0.mk (below_then HB6.out HB6.out.size hb7)
  have HD7 := Aside0.mk (Kd.C_below HD6.out hb7)
  have hC7t := Kd.C_take (m := 2) hC7 (by decide)
  have HC7 := Aside0.mk hC7t
  have hc7' : 3 ≤ c7 := hc7
  clear hb7 hC7 HB6 HD6 hC7t
  go_wp2_with (refine l_slice2 rfl rfl A7 3 c7 rfl (by omega) hc7' ?_)
  refine (Ranks_path A7 c7 _ HC7.out (by omega)).mono ?_
  rintro e w8 ⟨A8, c8, rfl, hc8, hC8, hb8⟩
  have HB8 := Aside0.mk (below_then HB7.out HB7.out.size hb8)
  have HD8 := Aside0.mk (Kd.C_below HD7.out hb8)
  have HC8 := Aside0.mk hC8
  clear hb8 hC8 HB7 HD7 HC7
  go_wp2_with fail
  refine (ring_any 5 3 ring3 _ ring3_f).mono ?_
  rintro e w9 ⟨A9, c9, rfl, hc9, hC9, hb9⟩
  have HB9 := Aside0.mk (below_then HB8.out HB8.out.size hb9)
  have HD9 := Aside0.mk (Kd.C_below HD8.out hb9)
  have HE9 := Aside0.mk (Kd.C_below HC8.out hb9)
  have hC9t := Kd.C_take (m := 2) hC9 (by decide)
  have HC9 := Aside0.mk hC9t
  have hc9' : 3 ≤ c9 := hc9
  clear hb9 hC9 HB8 HD8 HC8 hC9t
  go_wp2_with (refine l_slice2 rfl rfl A9 3 c9 rfl (by omega) hc9' ?_)
  refine (Sent_path A9 c9 _ HC9.out (by omega)).mono ?_
  rintro e wa ⟨Aa, ca, rfl, hca, hCa, hba⟩
  have HBa := Aside0.mk (below_then HB9.out HB9.out.size hba)
  have HDa := Aside0.mk (Kd.C_below HD9.out hba)
  have HEa := Aside0.mk (Kd.C_below HE9.out hba)
  have HFa := Aside0.mk hCa
  clear hba hCa HB9 HD9 HE9 HC9
  go_wp2_with fail
  have hbb : Below wa.heap.size wa (wa.alloc (.cells #[.int .i64 0, .int .i64 1, .int .i64 2] 3)) := below_alloc (Below.refl _ _) _
  have hCb := C_nums (l := [0, 1, 2]) (Blk.new wa 3 (numsA [0, 1, 2])) (by decide)
  refine (same3 0 1 2 (some A4) (some ⟨wa.heap.size, 0, none⟩) c4 3 _ (Kd.C_below HDa.out hbb) hCb hc4 (by omega)).mono ?_
  rintro e wb ⟨rfl, hdb⟩
  have hbw := below_then hbb hbb.size hdb.below
  have HBb := Aside0.mk (below_then HBa.out HBa.out.size hbw)
  have HEb := Aside0.mk (Kd.C_below HEa.out hbw)
  have HFb := Aside0.mk (Kd.C_below HFa.out hbw)
  clear hbb hCb hdb hbw HBa HDa HEa HFa
  go_wp2_with fail
  have hbc : Below wb.heap.size wb (wb.alloc (.cells #[.int .i64 0, .int .i64 1, .int .i64 0] 3)) := below_alloc (Below.refl _ _) _
  have hCc := C_nums (l := [0, 1, 0]) (Blk.new wb 3 (numsA [0, 1, 0])) (by decide)
  refine (same3 0 1 0 (some A8) (some ⟨wb.heap.size, 0, none⟩) c8 3 _ (Kd.C_below HEb.out hbc) hCc hc8 (by omega)).mono ?_
  rintro e wc ⟨rfl, hdc⟩
  have hbw := below_then hbc hbc.size hdc.below
  have HBc := Aside0.mk (below_then HBb.out HBb.out.size hbw)
  have hFc := Kd.C_below HFb.out hbw
  clear hbc hCc hdc hbw HBb HEb HFb
  obtain ⟨ad, rfl, s0⟩ := Kd.at_string hFc 0 (by omega) (by omega)
  obtain ⟨_, e1, s1⟩ := Kd.at_string hFc 1 (by omega) (by omega)
  cases e1
  obtain ⟨_, e1, s2⟩ := Kd.at_string hFc 2 (by omega) (by omega)
  cases e1
  have s0' : wc.cell? ad = some (.string ⟨#[33, 98]⟩) := s0
  have s1' : wc.cell? ⟨ad.block, ad.off + 1, none⟩ = some (.string ⟨#[33, 99]⟩) := s1
  have s2' : wc.cell? ⟨ad.block, ad.off + 2, none⟩ = some (.string ⟨#[49]⟩) := s2
  clear s0 s1 s2 hFc
  go_wp2_with fail
  go_ret
  exact ⟨rfl, HBc.out⟩
end Go.Proofs.Ytmobefgnkiboaaa.Im

namespace Go.Proofs.Ytmobefgnkiboaaa.Im
open Go.RowKit Go.Proofs.YtmobefgnkiboaaaW.PrintWords Go.Proofs.YtmobefgnkiboaaaW.PrintLast Go.Proofs.YtmobefgnkiboaaaW.PrintMore
set_option linter.unusedVariables false
theorem same_l0 (xs : List Int) (hx : xs.length < 1000000) : ∀ (d i : Nat), i + d = xs.length → Gives (fun k => pomadelaw02_same.l0 k xs xs i) true
  | 0, i, h => Gives.now fun k => by
    simp only [pomadelaw02_same.l0]
    rw [if_neg (by omega)]
  | d + 1, i, h => (same_l0 xs hx d (i + 1) (by omega)).step fun k hk => by
    simp only [pomadelaw02_same.l0]
    rw [if_pos (by omega), if_pos (by omega), if_pos (by omega), if_pos trivial, wr_succ i (by omega), hk]
theorem same_g (xs : List Int) (hx : xs.length < 1000000) : Gives (fun k => pomadelaw02_same.f k xs xs) true :=
  (same_l0 xs hx xs.length 0 (by omega)).map fun k hk => by
    simp only [pomadelaw02_same.f]
    rw [if_pos trivial]; exact hk
theorem same_any (xs : List Int) (A B : Option Addr) (c d : Nat) (w : World) (hx : xs.length < 1000000) (hA : Kd.C (Kd.int .i64) w A xs.length xs) (hc : xs.length ≤ c) (hB : Kd.C (Kd.int .i64) w B xs.length xs) (hd : xs.length ≤ d) :
    Calls Try.prog 18 #[.slice A xs.length c, .slice B xs.length d] w fun e w' => e = .returned (.bool true) ∧ Below w.heap.size w w' := by
  obtain ⟨k0, hk0⟩ := same_g xs hx
  exact (pomadelaw02_same.calls k0 A c xs B d xs true w hA hc hB hd (hk0 k0 (Nat.le_refl _))).mono fun e w' ⟨h1, h2⟩ => ⟨h1, h2.below⟩
theorem few_any (A B : Option Addr) (c d : Nat) (l : List S43) (xs : List Int) (w : World) (hA : Kd.C k43 w A l.length l) (hc : l.length ≤ c) (hB : Kd.C (Kd.int .i64) w B xs.length xs) (hd : xs.length ≤ d) :
    Calls Try.prog 14 #[.slice A l.length c, .slice B xs.length d] w fun e w' => e = .returned (.bool (decide (l.length ≤ 150) && decide (xs.length ≤ 50))) ∧ Below w.heap.size w w' := by
  have h : pomadelaw02_few.f l xs = some (decide (l.length ≤ 150) && decide (xs.length ≤ 50)) := by
    unfold pomadelaw02_few.f
    by_cases h : l.length ≤ 150
    · rw [if_pos (by omega), decide_eq_true h, Bool.true_and]
      congr 1
      rw [decide_eq_decide]; omega
    · rw [if_neg (by omega), decide_eq_false h]; rfl
  exact (pomadelaw02_few.calls A c l B d xs _ w hA hc hB hd h).mono fun e w' h => ⟨h.1, h.2.below⟩
end Go.Proofs.Ytmobefgnkiboaaa.Im

namespace Go.Proofs.Ytmobefgnkiboaaa.Im
open Go.RowKit Go.Proofs.YtmobefgnkiboaaaW.PrintWords Go.Proofs.YtmobefgnkiboaaaW.PrintLast Go.Proofs.YtmobefgnkiboaaaW.PrintMore
set_option linter.unusedVariables false
/-- A list and an error; with an error the list is empty. -/
def OutO (r : List Nat) (er : Int) (w : World) (e : Ending) (w' : World) : Prop :=
  ∃ A c, e = .returned (.tuple #[.slice A r.length c, .int .i64 er]) ∧ r.length ≤ c ∧ Kd.C (Kd.int .i64) w' A r.length (ints r) ∧ Below w.heap.size w w'
def listF (n : Int) (l : List S43) (x : Option (List Nat)) : List Nat := if ofE n l = 0 then x.getD [] else []
def errF (n : Int) (l : List S43) (x : Option (List Nat)) : Int := if ofE n l = 0 then (if x.isSome then 0 else 10) else ofE n l
theorem outO_nil (er : Int) (w w' : World) (h : Below w.heap.size w w') : OutO [] er w (.returned (.tuple #[.slice none 0 0, .int .i64 er])) w' :=
  ⟨none, 0, rfl, Nat.le_refl _, C_nil w', h⟩
theorem outO_first {n : Int} {l : List S43} {w : World} {x : Option Nat} {e : Ending} {w' : World}
    (h : if ofE n l = 0 then FirstR w x e w' else e = .returned (.tuple #[.slice none 0 0, .int .i64 (ofE n l)]) ∧ Below w.heap.size w w') : OutO (listF n l (x.map memL)) (errF n l (x.map memL)) w e w' := by
  unfold listF errF
  by_cases he : ofE n l = 0
  · rw [if_pos he] at h
    rw [if_pos he, if_pos he]
    cases x with
    | none => obtain ⟨rfl, h2⟩ := h; exact outO_nil _ _ _ h2
    | some r =>
      obtain ⟨v, rfl, h2, h3⟩ := h
      obtain ⟨A, c, rfl, h4, h5⟩ := Kd.R_reads h2
      rw [ints_length] at h4 h5 ⊢
      exact ⟨A, c, rfl, h4, h5, h3⟩
  · rw [if_neg he] at h
    rw [if_neg he, if_neg he]
    obtain ⟨rfl, h2⟩ := h; exact outO_nil _ _ _ h2
end Go.Proofs.Ytmobefgnkiboaaa.Im

namespace Go.Proofs.Ytmobefgnkiboaaa.Im
open Go.RowKit Go.Proofs.YtmobefgnkiboaaaW.PrintWords Go.Proofs.YtmobefgnkiboaaaW.PrintLast Go.Proofs.YtmobefgnkiboaaaW.PrintMore
set_option linter.unusedVariables false
def reachL (o M : List Nat) (r : Nat) : Nat := M.foldl (fun r i => r ||| o.getD i 0) r
theorem reachL_bit (o : List Nat) (b : Nat) : ∀ (M : List Nat) (r : Nat), (reachL o M r).testBit b = (r.testBit b || M.any fun i => (o.getD i 0).testBit b)
  | [], r => by simp [reachL]
  | i :: M, r => by
    show (reachL o M (r ||| o.getD i 0)).testBit b = _
    rw [reachL_bit o b M, Nat.testBit_or, List.any_cons, Bool.or_assoc]
end Go.Proofs.Ytmobefgnkiboaaa.Im

namespace Go.Proofs.Ytmobefgnkiboaaa.Im
open Go.RowKit Go.Proofs.YtmobefgnkiboaaaW.PrintWords Go.Proofs.YtmobefgnkiboaaaW.PrintLast Go.Proofs.YtmobefgnkiboaaaW.PrintMore
set_option linter.unusedVariables false
theorem reachL_lt {n : Nat} {o : List Nat} (ok : Okt n o) : ∀ (M : List Nat) (r : Nat), r < 2 ^ n → reachL o M r < 2 ^ n
  | [], r, h => h
  | i :: M, r, h => reachL_lt ok M _ (Nat.or_lt_two_pow h (ok.lt i))
end Go.Proofs.Ytmobefgnkiboaaa.Im

namespace Go.Proofs.Ytmobefgnkiboaaa.Im
open Go.RowKit Go.Proofs.YtmobefgnkiboaaaW.PrintWords Go.Proofs.YtmobefgnkiboaaaW.PrintLast Go.Proofs.YtmobefgnkiboaaaW.PrintMore
set_option linter.unusedVariables false
/-- The sets of the first k people turned. -/
def turnF (f : Nat → Nat) (o : List Nat) (k : Nat) : List Nat := (List.range 12).map fun i => if i < k then f i else o.getD i 0
theorem turnF_len (f : Nat → Nat) (o : List Nat) (k : Nat) : (turnF f o k).length = 12 := by simp [turnF]
theorem turnF_get (f : Nat → Nat) (o : List Nat) (k i : Nat) (hi : i < 12) : (turnF f o k).getD i 0 = if i < k then f i else o.getD i 0 := by
  unfold turnF
  rw [List.getD_eq_getElem?_getD, List.getElem?_map, List.getElem?_range hi]
  rfl
theorem ext12 {a b : List Nat} (ha : a.length = 12) (hb : b.length = 12) (h : ∀ i, i < 12 → a.getD i 0 = b.getD i 0) : a = b := by
  apply List.ext_getElem (by omega)
  intro i h1 h2
  have := h i (by omega)
  simpa [List.getD_eq_getElem?_getD, h1, h2] using this
theorem turnF_zero (f : Nat → Nat) (o : List Nat) (h : o.length = 12) : turnF f o 0 = o := ext12 (turnF_len _ _ _) h fun i hi => by rw [turnF_get f o 0 i hi, if_neg (by omega)]
theorem turnF_set (f : Nat → Nat) (o : List Nat) (k : Nat) (hk : k < 12) : (turnF f o k).set k (f k) = turnF f o (k + 1) := by
  refine ext12 (by rw [List.length_set, turnF_len]) (turnF_len _ _ _) fun i hi => ?_
  rw [turnF_get f o (k + 1) i hi, List.getD_eq_getElem?_getD, List.getElem?_set]
  by_cases e : k = i
  · rw [if_pos e, if_pos (by rw [turnF_len]; omega), if_pos (by omega), e]; rfl
  · rw [if_neg e, ← List.getD_eq_getElem?_getD, turnF_get f o k i hi]
    by_cases h : i < k
    · rw [if_pos h, if_pos (by omega)]
    · rw [if_neg h, if_neg (by omega)]
theorem turnF_same (f : Nat → Nat) (o : List Nat) (k : Nat) (hk : k < 12) : (turnF f o k).set k (o.getD k 0) = turnF f o k := by
  refine ext12 (by rw [List.length_set, turnF_len]) (turnF_len _ _ _) fun i hi => ?_
  rw [List.getD_eq_getElem?_getD, List.getElem?_set]
  by_cases e : k = i
  · rw [if_pos e, if_pos (by rw [turnF_len]; omega), ← e, turnF_get f o k k hk, if_neg (Nat.lt_irrefl _)]; rfl
  · rw [if_neg e, ← List.getD_eq_getElem?_getD]
theorem getD12 {o : List Nat} (h : o.length = 12) {i : Nat} (hi : ¬ i < 12) : o.getD i 0 = 0 := by
  rw [List.getD_eq_getElem?_getD, List.getElem?_eq_none (by omega)]; rfl
theorem turnF_okt {n : Nat} {o : List Nat} (ok : Okt n o) {f : Nat → Nat} (hf : ∀ i, f i < 2 ^ n) (k : Nat) : Okt n (turnF f o k) :=
  ⟨ok.n1, ok.n12, turnF_len _ _ _, fun i => by
    by_cases hi : i < 12
    · rw [turnF_get f o k i hi]
      split
      · exact hf i
      · exact ok.lt i
    · rw [getD12 (turnF_len _ _ _) hi]; exact Nat.two_pow_pos n⟩
def rchN (o : List Nat) (i : Nat) : Nat := reachL o (memL (o.getD i 0)) (o.getD i 0)
def rchO (n : Nat) (o : List Nat) : List Nat := turnF (rchN o) o n
theorem rchO_okt {n : Nat} {o : List Nat} (ok : Okt n o) : Okt n (rchO n o) := turnF_okt ok (fun i => reachL_lt ok _ _ (ok.lt i)) n
theorem reachL_snoc' (o M : List Nat) (r k : Nat) (h : k < M.length) : reachL o (M.take (k + 1)) r = reachL o (M.take k) r ||| o.getD (M.getD k 0) 0 := by
  rw [List.take_succ_eq_append_getElem h]
  unfold reachL
  rw [List.foldl_append]
  simp [h]
theorem addr_add_block (a : Addr) (k : Nat) : (a.add k).block = a.block := by
  unfold Addr.add
  split <;> rfl
theorem C_far {w : World} {A : Option Addr} {n : Nat} {xs : List Int} {p : Addr} {v : Value} (h : Kd.C (Kd.int .i64) w A n xs) (hA : ∀ a, A = some a → a.block ≠ p.block) : Kd.C (Kd.int .i64) (w.setCell p v) A n xs := by
  obtain ⟨h1, h2, h3⟩ := h
  refine ⟨h1, h2, fun hp => ?_⟩
  obtain ⟨ad, e, hc⟩ := h3 hp
  refine ⟨ad, e, fun j p' hj => ?_⟩
  obtain ⟨c, hl, hk, hcell⟩ := hc j p' hj
  refine ⟨c, hl, hk, fun i u hu => ?_⟩
  have hne := hA ad e
  have h0 := hcell i u hu
  exact (World.cell?_setCell_far w p _ v (by rw [addr_add_block]; exact Ne.symm hne)).trans h0
theorem TnN.set_ {w : World} {g n : Nat} {o : List Nat} (h : TnN w g n o) (i v : Nat) : TnN (w.setCell ⟨g, 1 + i, none⟩ (.int .i64 (v : Nat))) g n (o.set i v) := by
  have h1 := Blk.set_ h (1 + i) (.int .i64 (v : Nat))
  have e : (tnA n (ints o)).setIfInBounds (1 + i) (.int .i64 (v : Nat)) = tnA n (ints (o.set i v)) := by
    rw [Nat.add_comm 1 i, tnA_set]
    simp only [ints, List.map_set]
  rw [e] at h1
  exact h1
theorem resultsT {f : Func} {c : Nat} (hf : f.results = #[.cell c 50]) (tmps : Array Value) (w : World) (g : Nat) (cs : Array Value) (hp : tmps.getD c undef = .pointer (some ⟨g, 0, none⟩)) (hb : Blk w g 50 cs) (hs : cs.size = 13) :
    (results f tmps).run Try.prog w = .ok (.agg cs) w := by
  have hp' : tmps[c]?.getD undef = .pointer (some ⟨g, 0, none⟩) := by simpa using hp
  simp [results, hf, hp', asAddr, run_loadVar_row w g 50 50 cs (0, 0) _ hb Try.underlying50 rfl (by rw [info50, hs])]
set_option maxHeartbeats 3200000 in
set_option maxRecDepth 100000 in
theorem reach_any (n : Nat) (o : List Nat) (w : World) (ok : Okt n o) :
    Calls Try.prog 91 #[.agg (tnN n o)] w fun e w' => e = .returned (.agg (tnN n (rchO n o))) ∧ Below w.heap.size w w' := by
  have n12 := ok.n12
  have HK := Aside0.mk ok
  have H1 := Aside0.mk (tn_one n (rchO n o))
  have HZ := Aside0.mk (tn_size n (rchO n o) (turnF_len _ _ _))
  have H1o := Aside0.mk (tn_one n o)
  have HZo := Aside0.mk (tn_size n o ok.len)
  have p12 : (2 : Nat) ^ n ≤ 4096 := (Nat.pow_le_pow_right (by decide) n12 : 2 ^ n ≤ 2 ^ 12)
  have HT0 : Aside0 (TnN ((w.alloc (.cells (tnN n o) 50)).alloc (.cells #[.int .i64 0, .int .i64 0, .int .i64 0, .int .i64 0, .int .i64 0, .int .i64 0, .int .i64 0, .int .i64 0, .int .i64 0, .int .i64 0, .int .i64 0, .int .i64 0, .int .i64 0] 50)) w.heap.size n o) := ⟨(Blk.new _ _ _).alloc _⟩
  have HT1 : Aside0 (TnN (((w.alloc (.cells (tnN n o) 50)).alloc (.cells #[.int .i64 0, .int .i64 0, .int .i64 0, .int .i64 0, .int .i64 0, .int .i64 0, .int .i64 0, .int .i64 0, .int .i64 0, .int .i64 0, .int .i64 0, .int .i64 0, .int .i64 0] 50)).alloc (.cells (tnN n o) 50)) w.heap.size n o) := ⟨((Blk.new _ _ _).alloc _).alloc _⟩
  have HO1 : Aside0 (TnN (((w.alloc (.cells (tnN n o) 50)).alloc (.cells #[.int .i64 0, .int .i64 0, .int .i64 0, .int .i64 0, .int .i64 0, .int .i64 0, .int .i64 0, .int .i64 0, .int .i64 0, .int .i64 0, .int .i64 0, .int .i64 0, .int .i64 0] 50)).alloc (.cells (tnN n o) 50)) (w.heap.size + 1 + 1) n (turnF (rchN o) o 0)) := ⟨by rw [turnF_zero _ _ ok.len]; exact Blk.new' (by simp)⟩
  have HR1 : Aside0 (Blk (((w.alloc (.cells (tnN n o) 50)).alloc (.cells #[.int .i64 0, .int .i64 0, .int .i64 0, .int .i64 0, .int .i64 0, .int .i64 0, .int .i64 0, .int .i64 0, .int .i64 0, .int .i64 0, .int .i64 0, .int .i64 0, .int .i64 0] 50)).alloc (.cells (tnN n o) 50)) (w.heap.size + 1) 50 (tnN 0 zero12)) := ⟨Blk.alloc (Blk.new' (by simp)) _⟩
  have HB1 : Aside0 (Below w.heap.size w (((w.alloc (.cells (tnN n o) 50)).alloc (.cells #[.int .i64 0, .int .i64 0, .int .i64 0, .int .i64 0, .int .i64 0, .int .i64 0, .int .i64 0, .int .i64 0, .int .i64 0, .int .i64 0, .int .i64 0, .int .i64 0, .int .i64 0] 50)).alloc (.cells (tnN n o) 50))) := ⟨below_alloc (below_alloc (below_alloc (Below.refl _ _) _) _) _⟩
  have HSR : Aside0 ((((w.alloc (.cells (tnN n o) 50)).alloc (.cells #[.int .i64 0, .int .i64 0, .int .i64 0, .int .i64 0, .int .i64 0, .int .i64 0, .int .i64 0, .int .i64 0, .int .i64 0, .int .i64 0, .int .i64 0, .int .i64 0, .int .i64 0] 50)).alloc (.cells #[.int .i64 0, .int .i64 0, .int .i64 0, .int .i64 0, .int .i64 0, .int .i64 0, .int .i64 0, .int .i64 0, .int .i64 0, .int .i64 0, .int .i64 0, .int .i64 0, .int .i64 0] 50)).setRow (w.heap.size + 1 + 1) (tnN n o) = ((w.alloc (.cells (tnN n o) 50)).alloc (.cells #[.int .i64 0, .int .i64 0, .int .i64 0, .int .i64 0, .int .i64 0, .int .i64 0, .int .i64 0, .int .i64 0, .int .i64 0, .int .i64 0, .int .i64 0, .int .i64 0, .int .i64 0] 50)).alloc (.cells (tnN n o) 50)) := ⟨by have h := World.setRow_alloc_new ((w.alloc (.cells (tnN n o) 50)).alloc (.cells #[.int .i64 0, .int .i64 0, .int .i64 0, .int .i64 0, .int .i64 0, .int .i64 0, .int .i64 0, .int .i64 0, .int .i64 0, .int .i64 0, .int .i64 0, .int .i64 0, .int .i64 0] 50)) #[.int .i64 0, .int .i64 0, .int .i64 0, .int .i64 0, .int .i64 0, .int .i64 0, .int .i64 0, .int .i64 0, .int .i64 0, .int .i64 0, .int .i64 0, .int .i64 0, .int .i64 0] (tnN n o) 50; rw [show ((w.alloc (.cells (tnN n o) 50)).alloc (.cells #[.int .i64 0, .int .i64 0, .int .i64 0, .int .i64 0, .int .i64 0, .int .i64 0, .int .i64 0, .int .i64 0, .int .i64 0, .int .i64 0, .int .i64 0, .int .i64 0, .int .i64 0] 50)).heap.size = w.heap.size + 1 + 1 by simp] at h; exact h⟩
  have c00 : (tnN n o)[0]? = some (.int .i64 (n : Nat)) := rfl
  clear ok
  go_enter Try.func91, Try.ntmps91
  go_wp2_with (first | (refine wpList_store_row rfl 50 _ _ rfl (w.heap.size + 1 + 1) (tnN n o) rfl rfl 50 (tnN 0 zero12) (Blk.new' (by simp)) (by rw [info50, HZo.out]) (by rw [HZo.out]; rfl) H1o.out ?_; rw [HSR.out]) | (refine wpList_load_row rfl 50 _ rfl w.heap.size rfl 50 (tnN n o) (0, 0) _ HT0.out Try.underlying50 rfl (by rw [info50, HZo.out]) ?_))
  generalize ((w.alloc (.cells (tnN n o) 50)).alloc (.cells #[.int .i64 0, .int .i64 0, .int .i64 0, .int .i64 0, .int .i64 0, .int .i64 0, .int .i64 0, .int .i64 0, .int .i64 0, .int .i64 0, .int .i64 0, .int .i64 0, .int .i64 0] 50)).alloc (.cells (tnN n o) 50) = W0 at *
  generalize hg : w.heap.size = g at *
  have HBg : Aside0 (Below w.heap.size w W0) := ⟨by rw [hg]; exact HB1.out⟩
  have HG := Aside0.mk hg
  clear hg c00 HB1 HSR HT0
  have hbg : ∀ (W1 W2 : World) (x : Value), W1.grownBy W2 (some (g + 1 + 1)) → Below w.heap.size w W1 → Below w.heap.size w W2 := fun W1 W2 x h1 h2 => gb_below_new h2 h1 (fun g' h => by cases h; rw [HG.out]; omega)
  have HBG := Aside0.mk hbg
  clear hbg
  go_loopw [10] (fun v10 wr => ∃ k : Nat, k ≤ n ∧ v10 = .int .i64 (k : Int) ∧ Aside0 (TnN wr g n o) ∧ Aside0 (TnN wr (g + 1 + 1) n (turnF (rchN o) o k)) ∧ Aside0 (Blk wr (g + 1) 50 (tnN 0 zero12)) ∧ Aside0 (Below w.heap.size w wr)) (fun v _ => n - (intOf v).toNat)
  case atStart => exact ⟨0, Nat.zero_le _, rfl, HT1, HO1, HR1, HBg⟩
  case round =>
    clear HT1 HO1 HR1 HBg
    obtain ⟨k, hk, rfl, HT, HO, HR, HB⟩ := hrel
    by_cases hkn : k < n
    · have k0 : (0 : Int) ≤ k := by omega
      have k1 : (k : Int) < 12 := by omega
      have ck := TnN.cellS HT.out k (by rw [HK.out.len]; omega)
      rw [Nat.add_comm k 1] at ck
      have hokl := HK.out.lt12 k
      have hset := turnF_set (rchN o) o k (by omega)
      have hsame := turnF_same (rchN o) o k (by omega)
      have ew : rchN o k = reachL o (memL (o.getD k 0)) (o.getD k 0) := rfl
      rw [ew] at hset
      have HRL := Aside0.mk (fun q => reachL_lt HK.out ((memL (o.getD k 0)).take q) (o.getD k 0) (HK.out.lt k))
      have HM := Aside0.mk (fun (x : Nat) (hx : x ∈ memL (o.getD k 0)) => memL_lt hx)
      have hmm := members_any (o.getD k 0) wr hokl
      rw [show mem12 (o.getD k 0) 0 = memL (o.getD k 0) from rfl] at hmm
      have hlen := memL_len (o.getD k 0)
      generalize memL (o.getD k 0) = M at *
      generalize o.getD k 0 = ok at *
      have HMm := Aside0.mk hmm
      have HS := Aside0.mk hset
      have HO0 : Aside0 (TnN wr (g + 1 + 1) n ((turnF (rchN o) o k).set k (reachL o (M.take 0) ok))) := ⟨by rw [List.take_zero]; show TnN wr (g + 1 + 1) n ((turnF (rchN o) o k).set k ok); rw [hsame]; exact HO.out⟩
      clear hset hsame ew hmm HO
      go_wp2_with fail
      refine HMm.out.mono ?_
      rintro e w1 ⟨v, rfl, hr, hb⟩
      have HB1 := Aside0.mk (below_then HB.out HB.out.size hb)
      have HT1 := Aside0.mk (Blk.later HT.out hb)
      have HO1 := Aside0.mk (Blk.later HO0.out hb)
      have HR1 := Aside0.mk (Blk.later HR.out hb)
      obtain ⟨A, c, rfl, hlc, hC⟩ := Kd.R_reads hr
      have hsz := hb.size
      have hil : (ints M).length = M.length := ints_length M
      have hvb : ∀ b, A = some b → wr.heap.size ≤ b.block := fun b e => hr.1 b.block (by rw [e]; rfl) |> fun _ => Kd.R_base hr b.block (by rw [e]; rfl)
      have hgs : g + 1 + 1 < wr.heap.size := Blk.lt HO0.out
      have HNE : Aside0 (∀ b, A = some b → b.block ≠ g + 1 + 1) := ⟨fun b e => by have := hvb b e; omega⟩
      have HC := Aside0.mk hC
      clear hC hr hb HT HO0 HR HB HMm hvb
      rw [hil] at hlc HC ⊢
      clear hil
      go_wp2_with fail
      obtain ⟨W1, rfl⟩ : ∃ W1 : World, W1 = w1 := ⟨_, rfl⟩
      go_loopw [19] (fun v19 wx => ∃ q : Nat, q ≤ M.length ∧ v19 = .int .i64 (q : Int) ∧ Aside0 (TnN wx g n o) ∧ Aside0 (TnN wx (g + 1 + 1) n ((turnF (rchN o) o k).set k (reachL o (M.take q) ok))) ∧ Aside0 (Blk wx (g + 1) 50 (tnN 0 zero12)) ∧ Aside0 (Below w.heap.size w wx) ∧ Aside0 (Kd.C (Kd.int .i64) wx A M.length (ints M))) (fun v _ => M.length - (intOf v).toNat)
      case atStart => exact ⟨0, Nat.zero_le _, rfl, HT1, HO1, HR1, HB1, HC⟩
      case round =>
        clear HT1 HO1 HR1 HB1 HC
        obtain ⟨q, hq, rfl, HT, HO, HR, HB, HC⟩ := hrel
        by_cases hqm : q < M.length
        · obtain ⟨ad, rfl, cm⟩ := Kd.at_int HC.out (q : Int) (by omega) (by omega)
          rw [rd_ints, Int.toNat_natCast] at cm
          have hj := HM.out (M.getD q 0) (by rw [List.getD_eq_getElem?_getD, List.getElem?_eq_getElem hqm]; exact List.getElem_mem hqm)
          have hsn := reachL_snoc' o M ok q hqm
          obtain ⟨j, hjj⟩ : ∃ j, M.getD q 0 = j := ⟨_, rfl⟩
          rw [hjj] at cm hj hsn
          have cj := TnN.cellS HT.out j (by rw [HK.out.len]; exact hj)
          rw [Nat.add_comm j 1] at cj
          have hojl := HK.out.lt12 j
          have hrl := HRL.out q
          have hsl : ((turnF (rchN o) o k).set k (reachL o (M.take q) ok)).length = 12 := by rw [List.length_set, turnF_len]
          have co := TnN.cellS HO.out k (by rw [hsl]; omega)
          rw [Nat.add_comm k 1, List.getD_eq_getElem?_getD, List.getElem?_set_self (by rw [turnF_len]; omega), Option.getD_some] at co
          have fo := Blk.frozen HO.out (1 + k)
          have hor := b_or (reachL o (M.take q) ok) (o.getD j 0) (by omega) (by omega)
          rw [← hsn] at hor
          have HOR := Aside0.mk hor
          have HO2 := Aside0.mk (TnN.set_ HO.out k (reachL o (M.take (q + 1)) ok))
          rw [List.set_set] at HO2
          have j0 : (0 : Int) ≤ j := by omega
          have j1 : (j : Int) < 12 := by omega
          have HNE2 : Aside0 (ad.block ≠ g + 1 + 1) := ⟨HNE.out ad rfl⟩
          clear hsn hjj hor hsl
          generalize o.getD j 0 = oj at *
          generalize reachL o (M.take q) ok = r at *
          go_wp2_with fail
          refine wp_still_tail 11 (by kernel_rfl) (by kernel_rfl) ?_
          simp only [List.take_succ_cons, List.take_zero, List.drop_succ_cons, List.drop_zero]
          iterate 11 (refine wpStill_step (fun K hK => ?_); go_simp; refine hK _ ?_; clear hK K)
          refine wpStill_nil ?_
          go_wp2_with fail
          go_roundw
          case rel =>
            refine ⟨q + 1, by omega, by go_num, ⟨?_⟩, ⟨?_⟩, ⟨Blk.far (Blk.drew HR.out) (by simp) _⟩, ⟨HBG.out _ _ (.int .i64 0) (gb_set _ _ _) (below_drew HB.out)⟩, ⟨?_⟩⟩
            · exact Blk.far (Blk.drew HT.out) (by simp; omega) _
            · rw [HOR.out]
              exact HO2.out
            · exact Kd.C_below (C_far HC.out (fun a e => by cases e; exact HNE2.out)) (below_drew (Below.refl _ _))
          case measure => simp [intOf]; omega
        · obtain rfl : q = M.length := by omega
          rw [List.take_length, HS.out] at HO
          go_wp2_with fail
          go_roundw
          case rel => exact ⟨k + 1, by omega, by go_num, HT, HO, HR, HB⟩
          case measure => simp [intOf]; omega
    · obtain rfl : n = k := by omega
      have HLd : Aside0 (TnN wr (g + 1 + 1) n (rchO n o)) := HO
      go_wp2_with (first | (refine wpList_store_row rfl 50 _ _ rfl (g + 1) (tnN n (rchO n o)) rfl rfl 50 (tnN 0 zero12) HR.out (by rw [info50, HZ.out]) (by rw [HZ.out]; rfl) H1.out ?_) | (refine wpList_load_row rfl 50 _ rfl (g + 1 + 1) rfl 50 (tnN n (rchO n o)) (0, 0) _ HLd.out Try.underlying50 rfl (by rw [info50, HZ.out]) ?_))
      exact bodyPost_ret (resultsT (f := Try.f91) (c := 2) rfl _ _ (g + 1) _ rfl (Blk.row HR.out _) HZ.out) rfl ⟨rfl, gb_below_new HB.out (gb_row _ _ _) (fun g' h => by cases h; rw [HG.out]; omega)⟩
end Go.Proofs.Ytmobefgnkiboaaa.Im

namespace Go.Proofs.Ytmobefgnkiboaaa.Im
open Go.RowKit Go.Proofs.YtmobefgnkiboaaaW.PrintWords Go.Proofs.YtmobefgnkiboaaaW.PrintLast Go.Proofs.YtmobefgnkiboaaaW.PrintMore
set_option linter.unusedVariables false
/-- The load of a whole row where it is guarded, and wanted. -/
theorem wpList_load_row_w {P : Program} {ops : Array Oper} {rest : List Oper} {o : Oper} {a : Act} {w : World} {Q : Exit → Act → World → Prop} (hw : Region.wanted o (yielded ops a.tmps) = true) (ty : TypeId) (x : Operand) (ho : o.op = .load ty x)
    (g : Nat) (hx : a.eval x = .pointer (some ⟨g, 0, none⟩)) (t : TypeId) (cs : Array Value) (fr : Nat × Nat) (d : TypeDesc) (hg : w.heap[g]? = some (.cells cs t fr))
    (hu : P.underlying ty = some d) (hd : (match d with | .struct _ | .array _ _ => true | _ => false) = true) (hi : (P.info? ty).map (·.size) = some cs.size)
    (h : wpList P ops Q rest (a.put o.dst (.agg cs)) w) : wpList P ops Q (o :: rest) a w :=
  wpList_step fun _ hK => by rw [if_pos hw]; exact wp_load_row ty x ho g hx t cs fr d hg hu hd hi (hK _ _ h)
def quaB (n : Nat) (o : List Nat) (s : Nat) : Bool := AllB n (indB o s) (absB (rchO n o) s (2 ^ n - 1))
set_option maxHeartbeats 1600000 in
set_option maxRecDepth 100000 in
theorem quasi_any (n : Nat) (o : List Nat) (s : Nat) (w : World) (ok : Okt n o) (hs : s < 4096) :
    Calls Try.prog 78 #[.agg (tnN n o), .int .i64 (s : Nat)] w fun e w' => e = .returned (.bool (quaB n o s)) ∧ Below w.heap.size w w' := by
  have n12 := ok.n12
  have hp : 2 ^ n - 1 < 2 ^ 62 := by have : 2 ^ n < 2 ^ 62 := Nat.pow_lt_pow_right (by decide) (by omega); omega
  have HS : TnN (w.alloc (.cells (tnN n o) 50)).drew w.heap.size n o ∧ Below w.heap.size w (w.alloc (.cells (tnN n o) 50)).drew := ⟨Blk.new _ _ _, below_drew (below_alloc (Below.refl _ _) _)⟩
  unfold quaB
  go_enter Try.func78, Try.ntmps78
  go_wp2_with fail
  refine wp_region_held (S := fun wx => TnN wx w.heap.size n o ∧ Below w.heap.size w wx) (by kernel_rfl) ?_
  refine tk (i := 0) 5 (v := .agg (tnN n o)) rfl rfl (by kernel_rfl) (by kernel_rfl) (by kernel_rfl) (fun _ _ _ h => h) (by kernel_rfl) (fun wx h => ex_load_tn rfl wx w.heap.size n o rfl h.1 ok.len) HS ?_
  simp only [pt_lit, List.set_cons_succ, List.set_cons_zero]
  refine tk (i := 1) 6 (v := .agg (tnN n o)) rfl rfl (by kernel_rfl) (by kernel_rfl) (by kernel_rfl) (fun _ _ _ h => h) (by kernel_rfl) (fun wx h => ex_load_tn rfl wx w.heap.size n o rfl h.1 ok.len) HS ?_
  simp only [pt_lit, List.set_cons_succ, List.set_cons_zero]
  refine tk (i := 2) 7 (v := .int .i64 (s : Nat)) rfl rfl (by kernel_rfl) (by kernel_rfl) (by kernel_rfl) (fun _ _ _ h => h) (by kernel_rfl) (fun wx _ => by kernel_rfl) HS ?_
  simp only [pt_lit, List.set_cons_succ, List.set_cons_zero]
  refine tk (i := 4) 9 (v := .agg (tnN n o)) rfl rfl (by kernel_rfl) (by kernel_rfl) (by kernel_rfl) (fun _ _ _ h => h) (by kernel_rfl) (fun wx h => ex_load_tn rfl wx w.heap.size n o rfl h.1 ok.len) HS ?_
  simp only [pt_lit, List.set_cons_succ, List.set_cons_zero]
  refine tk (i := 6) 11 (v := .int .i64 (s : Nat)) rfl rfl (by kernel_rfl) (by kernel_rfl) (by kernel_rfl) (fun _ _ _ h => h) (by kernel_rfl) (fun wx _ => by kernel_rfl) HS ?_
  simp only [pt_lit, List.set_cons_succ, List.set_cons_zero]
  refine tk (i := 7) 12 (v := .agg (tnN n o)) rfl rfl (by kernel_rfl) (by kernel_rfl) (by kernel_rfl) (fun _ _ _ h => h) (by kernel_rfl) (fun wx h => ex_load_tn rfl wx w.heap.size n o rfl h.1 ok.len) HS ?_
  simp only [pt_lit, List.set_cons_succ, List.set_cons_zero]
  refine rc (i := 3) 8 (f := 61) (args := #[.agg (tnN n o), .int .i64 (s : Nat)]) (by kernel_rfl) rfl rfl (by kernel_rfl) (by kernel_rfl) ?_
  refine (indep_any n o s _ ok (by omega)).mono ?_
  rintro e w1 ⟨cap1, rfl, T1, hb1⟩
  have HS1 : TnN w1 w.heap.size n o ∧ Below w.heap.size w w1 := ⟨Blk.later HS.1 hb1, below_then HS.2 HS.2.size hb1⟩
  refine ⟨_, rfl, HS1, ?_⟩
  simp only [pt_lit, List.set_cons_succ, List.set_cons_zero]
  refine rc (i := 5) 10 (f := 91) (args := #[.agg (tnN n o)]) (by kernel_rfl) rfl rfl (by kernel_rfl) (by kernel_rfl) ?_
  refine (reach_any n o _ ok).mono ?_
  rintro e w2 ⟨rfl, hb2⟩
  have HS2 : TnN w2 w.heap.size n o ∧ Below w.heap.size w w2 := ⟨Blk.later HS1.1 hb2, below_then HS1.2 HS1.2.size hb2⟩
  refine ⟨_, rfl, HS2, ?_⟩
  simp only [pt_lit, List.set_cons_succ, List.set_cons_zero]
  refine rc (i := 8) 13 (f := 57) (args := #[.agg (tnN n o)]) (by kernel_rfl) rfl rfl (by kernel_rfl) (by kernel_rfl) ?_
  refine (everybody_any n o _ n12).mono ?_
  rintro e w3 ⟨rfl, hb3⟩
  have HS3 : TnN w3 w.heap.size n o ∧ Below w.heap.size w w3 := ⟨Blk.later HS2.1 hb3, below_then HS2.2 HS2.2.size hb3⟩
  refine ⟨_, rfl, HS3, ?_⟩
  simp only [pt_lit, List.set_cons_succ, List.set_cons_zero]
  refine rc (i := 9) 14 (f := 62) (args := #[.agg (tnN n (rchO n o)), .int .i64 (s : Nat), .int .i64 (2 ^ n - 1 : Nat)]) (by kernel_rfl) rfl rfl (by kernel_rfl) (by kernel_rfl) ?_
  refine (absb_any n (rchO n o) s (2 ^ n - 1) _ (rchO_okt ok) (by omega) hp).mono ?_
  rintro e w4 ⟨cap2, rfl, T2, hb4⟩
  have HS4 : TnN w4 w.heap.size n o ∧ Below w.heap.size w w4 := ⟨Blk.later HS3.1 hb4, below_then HS3.2 HS3.2.size hb4⟩
  refine ⟨_, rfl, HS4, ?_⟩
  simp only [pt_lit, List.set_cons_succ, List.set_cons_zero]
  have hb5 : Below w4.heap.size w4 (w4.alloc (.cells #[.func (.func 86) #[] cap1, .func (.func 87) #[] cap2] 62)) := below_alloc (Below.refl _ _) _
  have hB := Blk.new w4 62 #[.func (.func 86) #[] cap1, .func (.func 87) #[] cap2]
  have HS5 : TnN (w4.alloc (.cells #[.func (.func 86) #[] cap1, .func (.func 87) #[] cap2] 62)) w.heap.size n o ∧ Below w.heap.size w (w4.alloc (.cells #[.func (.func 86) #[] cap1, .func (.func 87) #[] cap2] 62)) := ⟨Blk.later HS4.1 hb5, below_then HS4.2 HS4.2.size hb5⟩
  refine rv 15 (i := 10) (v := .slice (some ⟨w4.heap.size, 0, none⟩) 2 2) (w' := w4.alloc (.cells #[.func (.func 86) #[] cap1, .func (.func 87) #[] cap2] 62)) (by kernel_rfl) rfl rfl (by kernel_rfl) (by kernel_rfl) HS5 ?_
  simp only [pt_lit, List.set_cons_succ, List.set_cons_zero]
  refine rc (i := 11) 16 (f := 60) (args := #[.agg (tnN n o), .slice (some ⟨w4.heap.size, 0, none⟩) 2 2]) (by kernel_rfl) rfl rfl (by kernel_rfl) (by kernel_rfl) ?_
  refine (all_any n o 86 87 cap1 cap2 _ _ _ _ ok (by rw [hB.cell]; rfl) (by rw [hB.cell]; rfl) ((((T1.later hb2).later hb3).later hb4).later hb5) (T2.later hb5)).mono ?_
  rintro e w6 ⟨rfl, hb6⟩
  have HS6 : TnN w6 w.heap.size n o ∧ Below w.heap.size w w6 := ⟨Blk.later HS5.1 hb6, below_then HS5.2 HS5.2.size hb6⟩
  refine ⟨_, rfl, HS6, ?_⟩
  simp only [pt_lit, List.set_cons_succ, List.set_cons_zero]
  refine tk (i := 12) 4 (v := .bool (AllB n (indB o s) (absB (rchO n o) s (2 ^ n - 1)))) rfl rfl (by kernel_rfl) (by kernel_rfl) (by kernel_rfl) (fun _ _ _ h => h) (by kernel_rfl) (fun wx _ => by kernel_rfl) HS6 ?_
  simp only [pt_lit, List.set_cons_succ, List.set_cons_zero]
  refine wpAnyH_done (by kernel_rfl) ?_ _
  go_wp2_with fail
  go_ret
  exact ⟨rfl, HS6.2⟩
/-- A bound method that is a test of sets. -/
structure HasQ (w : World) (f : FuncId) (x : Value) (has : Nat → Bool) : Prop where
  enter : ∀ (args : Array Value) (w : World), (callFunc f args).run Try.prog w = .ok (.enter f args) w
  calls : ∀ s, s < 4096 → ∀ w', Below w.heap.size w w' → Calls Try.prog f #[x, .int .i64 (s : Nat)] w' (fun e w'' => e = .returned (.bool (has s)) ∧ Below w'.heap.size w' w'')
theorem HasQ.later {w w1 : World} {f : FuncId} {x : Value} {p : Nat → Bool} (h : HasQ w f x p) (hb : Below w.heap.size w w1) : HasQ w1 f x p :=
  ⟨h.enter, fun i hi w' hw => h.calls i hi w' (below_then hb hb.size hw)⟩
/-- What 'first' holds while it tries sets with a bound method. -/
structure FirstQ (gout gh base : Nat) (w0 : World) (f : FuncId) (x : Value) (has : Nat → Bool) (st : List Nat) (w : World) : Prop where
  out : ∃ v, Blk w gout 25 #[v] ∧ Kd.R (Kd.int .i64) 3 w base (fun _ => True) v (ints st)
  bh : Blk w gh 62 #[.func (.func f) #[x] #[]]
  ne : gh ≠ gout
  hc : HasQ w0 f x has
  bel : Below base w0 w
  size : base ≤ w.heap.size
  b1 : base ≤ gout
  b0 : base = w0.heap.size
theorem FirstQ.keep {gout gh base : Nat} {w0 : World} {f : FuncId} {x : Value} {has : Nat → Bool} {st : List Nat} {w w' : World} (h : FirstQ gout gh base w0 f x has st w) (hg : w.grownBy w' none) : FirstQ gout gh base w0 f x has st w' := by
  obtain ⟨⟨v, hb, hr⟩, h2, h3, h4, h5, h6, h7, h8⟩ := h
  exact ⟨⟨v, hb.gb hg (by simp), Kd.R_below hr (below_gb hg)⟩, h2.gb hg (by simp), h3, h4, h5.grown hg h6 (fun k hk => by cases hk), Nat.le_trans h6 hg.size, h7, h8⟩
set_option maxHeartbeats 1600000 in
set_option maxRecDepth 100000 in
theorem firstQ1_any (gout gh base : Nat) (w0 : World) (f : FuncId) (x : Value) (has : Nat → Bool) (st : List Nat) (s : Nat) (w : World) (hs : s < 4096) (h : FirstQ gout gh base w0 f x has st w) :
    Calls Try.prog 85 #[.int .i64 s, .pointer (some ⟨gout, 0, none⟩), .pointer (some ⟨gh, 0, none⟩)] w
      (fun e w' => e = .returned (.bool (has s)) ∧ FirstQ gout gh base w0 f x has (memL s) w' ∧ w.grownBy w' (some gout)) := by
  have HH := Aside0.mk h
  clear h
  go_enter Try.func85, Try.ntmps85
  go_wp2_with fail
  refine (members_any s _ hs).mono ?_
  rintro e w1 ⟨v, rfl, hr, hb⟩
  obtain ⟨⟨v0, hb0, hr0⟩, h2, h3, h4, h5, h6, h7, h8⟩ := HH.out
  obtain ⟨A, c, rfl, hlc, hC⟩ := Kd.R_reads hr
  have k1 := hb0.later hb
  have k2 := h2.later hb
  have c1 : w1.cell? ⟨gout, 0, none⟩ = some v0 := k1.cell 0
  have c2 : w1.frozen? ⟨gout, 0, none⟩ = false := k1.frozen 0
  have k3 := Blk.set_ k1 0 (.slice A (ints (mem12 s 0)).length c)
  have k4 := Blk.far k2 (p := ⟨gout, 0, none⟩) h3 (.slice A (ints (mem12 s 0)).length c)
  have c3 : (w1.setCell ⟨gout, 0, none⟩ (.slice A (ints (mem12 s 0)).length c)).cell? ⟨gh, 0, none⟩ = some (.func (.func f) #[x] #[]) := k4.cell 0
  have g1 : w.grownBy (w1.setCell ⟨gout, 0, none⟩ (.slice A (ints (mem12 s 0)).length c)) (some gout) := gb_trans (gb_below hb) (gb_set _ _ _)
  have b1 : Below base w0 (w1.setCell ⟨gout, 0, none⟩ (.slice A (ints (mem12 s 0)).length c)) := h5.grown g1 h6 (fun k hk => by cases hk; exact h7)
  have r1 : Kd.R (Kd.int .i64) 3 (w1.setCell ⟨gout, 0, none⟩ (.slice A (ints (mem12 s 0)).length c)) base (fun _ => True) (.slice A (ints (mem12 s 0)).length c) (ints (memL s)) :=
    Kd.R_lower (Kd.R_set hr k1 (by decide) 0 _) h6
  have E0 := h4.enter
  have KK := Aside0.mk (And.intro k3 (And.intro k4 (And.intro g1 (And.intro b1 r1))))
  have HC := Aside0.mk h4
  have H6 := Aside0.mk (Nat.le_trans h6 g1.size)
  have H7 := Aside0.mk h7
  have H8 := Aside0.mk h8
  have H3 := Aside0.mk h3
  clear k3 k4 g1 b1 r1 k1 k2 hC hr hb h2 h3 h4 h5 h6 h7 h8 hb0 hr0 HH
  go_wp2_with fail
  have hbb := KK.out.2.2.2.1
  rw [H8.out] at hbb
  refine (HC.out.calls s hs _ hbb).mono ?_
  rintro e w2 ⟨rfl, hb2⟩
  have FB := Aside0.mk hb2
  clear hb2 hbb
  go_wp2_with fail
  go_ret
  obtain ⟨k3, k4, g1, b1, r1⟩ := KK.out
  exact ⟨rfl, FirstQ.keep ⟨⟨_, k3, r1⟩, k4, H3.out, HC.out, b1, H6.out, H7.out, H8.out⟩ (gb_below FB.out), gb_trans g1 (gb_below FB.out)⟩
set_option maxHeartbeats 1600000 in
set_option maxRecDepth 100000 in
theorem firstQ_any (n : Nat) (o : List Nat) (f : FuncId) (x : Value) (has : Nat → Bool) (w : World) (ok : Okt n o) (hc : HasQ w f x has) :
    Calls Try.prog 54 #[.agg (tnN n o), .func (.func f) #[x] #[]] w (FirstR w (firstS has n)) := by
  have hmf : ∀ (fn : Fn) (first cap : Array Value) (w : World), (Instr.makeFunc fn first cap).run Try.prog w = .ok (.func fn first cap) w := fun _ _ _ _ => rfl
  have n12 := ok.n12
  have hpn := pow12_lt n n12
  have V : Visit (FirstQ (w.heap.size + 1 + 1) (w.heap.size + 1) w.heap.size w f x has) (some (w.heap.size + 1 + 1)) 85 #[.pointer (some ⟨w.heap.size + 1 + 1, 0, none⟩), .pointer (some ⟨w.heap.size + 1, 0, none⟩)] (visF has) :=
    ⟨cf85, fun st w1 w2 h hg => h.keep hg, fun st s w1 hs h => firstQ1_any _ _ _ _ _ _ _ st s w1 hs h⟩
  obtain ⟨st', hon⟩ := onL_onF has (mem12 (2 ^ n - 1) 0) 0 []
  have hfs : firstS has n = onF has (mem12 (2 ^ n - 1) 0) 0 := rfl
  rw [hfs]
  clear hfs
  generalize onF has (mem12 (2 ^ n - 1) 0) 0 = r at *
  have HO := Aside0.mk hon
  have HC := Aside0.mk hc
  have HV := Aside0.mk V
  have HT : Aside0 (TnN ((w.alloc (.cells (tnN n o) 50)).alloc (.cells #[.func (.func f) #[x] #[]] 62) |>.alloc (.cells #[.slice none 0 0] 25)) w.heap.size n o) := ⟨((Blk.new w 50 (tnN n o)).alloc _).alloc _⟩
  clear hon hc V
  go_enter Try.func54, Try.ntmps54
  go_wp2_with (first | (refine wpList_load_row rfl 50 _ rfl w.heap.size rfl 50 (tnN n o) (0, 0) _ HT.out Try.underlying50 rfl (tn_info _ _ ok.len) ?_) | (go_at_call 57; refine (everybody_any n o _ n12).mono ?_; rintro e w1 ⟨rfl, hb1⟩))
  have HW := Aside0.mk (below_then (below_alloc (below_alloc (below_alloc (Below.refl _ w) (.cells (tnN n o) 50)) (.cells #[.func (.func f) #[x] #[]] 62)) (.cells #[.slice none 0 0] 25)) (by simp; omega) hb1)
  have hI : FirstQ (w.heap.size + 1 + 1) (w.heap.size + 1) w.heap.size w f x has [] w1 :=
    ⟨⟨.slice none 0 0, (Blk.new' (by simp)).later hb1, Kd.R_nil _ _ _ _ _⟩, ((Blk.new' (by simp)).alloc _).later hb1, by omega, HC.out, HW.out, HW.out.size, by omega, rfl⟩
  refine (each_any HV.out (2 ^ n - 1) hpn [] _ hI (fun g h => by cases h; have := hb1.size; simp at this; omega)).mono ?_
  rintro e w2 ⟨rfl, hI2, hg2⟩
  rw [HO.out] at hI2 ⊢
  have HW2 := Aside0.mk (HW.out.grown hg2 HW.out.size (fun k hk => by cases hk; omega))
  clear hg2 hI hb1 HT HO
  cases r
  · clear hI2
    go_wp2_with fail
    go_ret2
    exact ⟨rfl, HW2.out⟩
  · obtain ⟨⟨v, hb, hr⟩, _⟩ := hI2
    have HR := Aside0.mk hr
    have c1 := hb.cell 0
    simp only [List.getElem?_toArray, List.getElem?_cons_zero] at c1
    clear hb hr
    go_wp2_with fail
    go_ret2
    exact ⟨v, rfl, HR.out, HW2.out⟩
def QuasiPost (n : Int) (l : List S43) (w : World) (e : Ending) (w' : World) : Prop :=
  if ofE n l = 0 then FirstR w (firstS (fun s => quaB n.toNat (townO l) s) n.toNat) e w'
  else e = .returned (.tuple #[.slice none 0 0, .int .i64 (ofE n l)]) ∧ Below w.heap.size w w'
theorem cf78 (args : Array Value) (w : World) : (callFunc 78 args).run Try.prog w = .ok (.enter 78 args) w := by kernel_rfl
set_option maxHeartbeats 1600000 in
set_option maxRecDepth 100000 in
theorem QuasiP_any (n : Int) (A : Option Addr) (c : Nat) (l : List S43) (w : World) (hr : Kd.C k43 w A l.length l) (hc : l.length ≤ c) :
    Calls Try.prog 41 #[.int .i64 n, .slice A l.length c] w (QuasiPost n l w) := by
  have hmf : ∀ (fn : Fn) (first cap : Array Value) (w : World), (Instr.makeFunc fn first cap).run Try.prog w = .ok (.func fn first cap) w := fun _ _ _ _ => rfl
  have HO := Aside0.mk (of_A n A c l w hr hc)
  have HZ := Aside0.mk (ofA_size n l)
  have H1 := Aside0.mk (ofA_one n l)
  clear hr hc
  by_cases he : ofE n l = 0
  · have ok := okt_of he
    have hA : ofA n l = tnN n.toNat (townO l) := by rw [ofA, if_pos he]
    have hK : QuasiPost n l w = FirstR w (firstS (fun s => quaB n.toNat (townO l) s) n.toNat) := by funext e w'; simp [QuasiPost, he]
    obtain ⟨r, hr0⟩ : ∃ r, firstS (fun s => quaB n.toNat (townO l) s) n.toNat = r := ⟨_, rfl⟩
    rw [hK, hr0]
    have HR0 := Aside0.mk hr0
    clear hr0
    rw [hA] at HO HZ H1
    rw [he] at HO
    have HK := Aside0.mk ok
    clear he hA ok hK
    go_enter Try.func41, Try.ntmps41
    go_wp2_with fail
    refine HO.out.mono ?_
    rintro e w1 ⟨rfl, hb⟩
    have HB := Aside0.mk hb
    clear hb HO
    have HT : Aside0 (TnN (w1.alloc (.cells (tnN n.toNat (townO l)) 50)) w1.heap.size n.toNat (townO l)) := ⟨Blk.new _ _ _⟩
    go_wp2_with (first | (refine wpList_store_row rfl 50 _ _ rfl w1.heap.size (tnN n.toNat (townO l)) rfl rfl 50 (tnN 0 zero12) (heap_alloc_new w1 _) (by rw [info50, HZ.out]) (by rw [HZ.out]; rfl) H1.out ?_; rw [World.setRow_alloc_new]) | (refine wpList_load_row rfl 50 _ rfl w1.heap.size rfl 50 (tnN n.toNat (townO l)) (0, 0) _ HT.out Try.underlying50 rfl (by rw [info50, HZ.out]) ?_))
    have HB2 := Aside0.mk (below_alloc HB.out (.cells (tnN n.toNat (townO l)) 50))
    have HH : HasQ (w1.alloc (.cells (tnN n.toNat (townO l)) 50)) 78 (.agg (tnN n.toNat (townO l))) (fun s => quaB n.toNat (townO l) s) := ⟨cf78, fun s hs w2 hw2 => quasi_any n.toNat (townO l) s w2 HK.out hs⟩
    refine (firstQ_any n.toNat (townO l) 78 (.agg (tnN n.toNat (townO l))) (fun s => quaB n.toNat (townO l) s) _ HK.out HH).mono ?_
    intro e w2 h2
    rw [HR0.out] at h2
    clear HR0 HH
    cases r with
    | none =>
      obtain ⟨rfl, hb2⟩ := h2
      have HB3 := Aside0.mk (below_then HB2.out HB2.out.size hb2)
      clear hb2
      go_wp2_with fail
      go_ret2
      exact ⟨rfl, HB3.out⟩
    | some x =>
      obtain ⟨v, rfl, hr2, hb2⟩ := h2
      have HB3 := Aside0.mk (below_then HB2.out HB2.out.size hb2)
      have HR := Aside0.mk (Kd.R_lower hr2 HB2.out.size)
      clear hb2 hr2
      go_wp2_with fail
      go_ret2
      exact ⟨v, rfl, HR.out, HB3.out⟩
  · have hK : QuasiPost n l w = fun e w' => e = .returned (.tuple #[.slice none 0 0, .int .i64 (ofE n l)]) ∧ Below w.heap.size w w' := by funext e w'; simp [QuasiPost, he]
    rw [hK]
    have hb : (ofE n l != 0) = true := bne_iff_ne.2 he
    have hb' : (ofE n l == 0) = false := beq_eq_false_iff_ne.2 he
    clear hK he
    generalize ofE n l = er at *
    go_enter Try.func41, Try.ntmps41
    go_wp2_with fail
    refine HO.out.mono ?_
    rintro e w1 ⟨rfl, hb⟩
    have HB := Aside0.mk hb
    clear hb HO
    go_wp2_with (refine wpList_store_row rfl 50 _ _ rfl w1.heap.size (ofA n l) rfl rfl 50 (tnN 0 zero12) (heap_alloc_new w1 _) (by rw [info50, HZ.out]) (by rw [HZ.out]; rfl) H1.out ?_)
    go_ret2
    exact ⟨rfl, by rw [World.setRow_alloc_new]; exact below_alloc HB.out _⟩
def quaO (n : Int) (l : List S43) : Option (List Nat) := (firstS (fun s => quaB n.toNat (townO l) s) n.toNat).map memL
theorem progQuasi_any (n : Int) (A : Option Addr) (c : Nat) (l : List S43) (w : World) (hr : Kd.C k43 w A l.length l) (hc : l.length ≤ c) :
    Calls Try.prog 41 #[.int .i64 n, .slice A l.length c] w (OutO (listF n l (quaO n l)) (errF n l (quaO n l)) w) :=
  (QuasiP_any n A c l w hr hc).mono fun e w' h => outO_first h
theorem quasi_b {n : Nat} {o : List Nat} {s : Nat} {b : Bool} (hb : quaB n o s = b) (w : World) (ok : Okt n o) (hs : s < 4096) :
    Calls Try.prog 78 #[.agg (tnN n o), .int .i64 (s : Nat)] w fun e w' => e = .returned (.bool b) ∧ Below w.heap.size w w' := hb ▸ quasi_any n o s w ok hs
def isQ (n : Nat) (o : List Nat) (l : List Int) : Bool := decide (AscTo n l l.length) && quaB n o (setOf l)
def IsQPost (n : Int) (l : List S43) (s : List Int) (w : World) (e : Ending) (w' : World) : Prop :=
  e = .returned (.tuple #[.bool (if ofE n l = 0 then isQ n.toNat (townO l) s else false), .int .i64 (ofE n l)]) ∧ Below w.heap.size w w'
set_option maxHeartbeats 3200000 in
set_option maxRecDepth 100000 in
theorem IsQuasiP_any (n : Int) (A : Option Addr) (c : Nat) (l : List S43) (B : Option Addr) (d : Nat) (s : List Int) (w : World) (hr : Kd.C k43 w A l.length l) (hc : l.length ≤ c)
    (hr2 : Kd.C (Kd.int .i64) w B s.length s) (hd : s.length ≤ d) (hs : s.length < 4611686018427387904) :
    Calls Try.prog 39 #[.int .i64 n, .slice A l.length c, .slice B s.length d] w (IsQPost n l s w) := by
  have HO := Aside0.mk (of_A n A c l w hr hc)
  have HZ := Aside0.mk (ofA_size n l)
  have H1 := Aside0.mk (ofA_one n l)
  have HR2 := Aside0.mk hr2
  clear hr hc hr2
  by_cases he : ofE n l = 0
  · have ok := okt_of he
    have hA : ofA n l = tnN n.toNat (townO l) := by rw [ofA, if_pos he]
    have hK : IsQPost n l s w = fun e w' => e = .returned (.tuple #[.bool (isQ n.toNat (townO l) s), .int .i64 0]) ∧ Below w.heap.size w w' := by funext e w'; simp [IsQPost, he]
    rw [hK]
    rw [hA] at HO HZ H1
    rw [he] at HO
    clear he hA hK
    generalize townO l = o at *
    generalize n.toNat = m at *
    have HK := Aside0.mk ok
    have n12 := ok.n12
    have hpn := pow12_lt m n12
    clear ok
    by_cases ha : AscTo m s s.length
    · have hS := Nat.lt_of_lt_of_le (by have := setOf_lt m s s.length (Nat.le_refl _) ha; rwa [List.take_length] at this) (Nat.pow_le_pow_right (by decide) n12 : 2 ^ m ≤ 2 ^ 12)
      have hB : isQ m o s = quaB m o (setOf s) := by simp [isQ, ha]
      have hL : listedV m s = .tuple #[.int .i64 (setOf s : Nat), .bool true] := if_pos ha
      rw [hB]
      have HLt := Aside0.mk (fun w' h => hL ▸ listed_any m o B d s w' HK.out h hd hs)
      clear hB hL ha
      generalize setOf s = S at *
      obtain ⟨b, hb⟩ : ∃ b, quaB m o S = b := ⟨_, rfl⟩
      rw [hb]
      have HQ := Aside0.mk hb
      clear hb
      go_enter Try.func39, Try.ntmps39
      go_wp2_with fail
      refine HO.out.mono ?_
      rintro e w1 ⟨rfl, hb⟩
      have HB := Aside0.mk hb
      clear hb HO
      have HT : Aside0 (TnN (w1.alloc (.cells (tnN m o) 50)) w1.heap.size m o) := ⟨Blk.new _ _ _⟩
      have HB1 := Aside0.mk (below_alloc HB.out (.cells (tnN m o) 50))
      go_wp2_with (first | (refine wpList_store_row rfl 50 _ _ rfl w1.heap.size (tnN m o) rfl rfl 50 (tnN 0 zero12) (heap_alloc_new w1 _) (by rw [info50, HZ.out]) (by rw [HZ.out]; rfl) H1.out ?_; rw [World.setRow_alloc_new]) | (refine wpList_load_row rfl 50 _ rfl w1.heap.size rfl 50 (tnN m o) (0, 0) _ HT.out Try.underlying50 rfl (by rw [info50, HZ.out]) ?_))
      refine (HLt.out _ (Kd.C_below HR2.out (HB1.out))).mono ?_
      rintro e w2 ⟨rfl, hb2⟩
      have HB2 := Aside0.mk (below_then HB1.out HB1.out.size hb2)
      have HT2 := Aside0.mk (Blk.later HT.out hb2)
      clear hb2
      go_wp2_with (refine wpList_load_row_w (by kernel_rfl) 50 _ rfl w1.heap.size rfl 50 (tnN m o) (0, 0) _ HT2.out Try.underlying50 rfl (by rw [info50, HZ.out]) ?_)
      refine (quasi_b HQ.out _ HK.out (by omega)).mono ?_
      rintro e w4 ⟨rfl, hb4⟩
      have HB4 := Aside0.mk (below_then HB2.out HB2.out.size hb4)
      clear hb4
      go_wp2_with fail
      go_ret2
      exact ⟨rfl, HB4.out⟩
    · have hB : isQ m o s = false := by simp [isQ, ha]
      have hL : listedV m s = .tuple #[.int .i64 0, .bool false] := if_neg ha
      rw [hB]
      have HLt := Aside0.mk (fun w' h => hL ▸ listed_any m o B d s w' HK.out h hd hs)
      clear hB hL ha
      go_enter Try.func39, Try.ntmps39
      go_wp2_with fail
      refine HO.out.mono ?_
      rintro e w1 ⟨rfl, hb⟩
      have HB := Aside0.mk hb
      clear hb HO
      have HT : Aside0 (TnN (w1.alloc (.cells (tnN m o) 50)) w1.heap.size m o) := ⟨Blk.new _ _ _⟩
      have HB1 := Aside0.mk (below_alloc HB.out (.cells (tnN m o) 50))
      go_wp2_with (first | (refine wpList_store_row rfl 50 _ _ rfl w1.heap.size (tnN m o) rfl rfl 50 (tnN 0 zero12) (heap_alloc_new w1 _) (by rw [info50, HZ.out]) (by rw [HZ.out]; rfl) H1.out ?_; rw [World.setRow_alloc_new]) | (refine wpList_load_row rfl 50 _ rfl w1.heap.size rfl 50 (tnN m o) (0, 0) _ HT.out Try.underlying50 rfl (by rw [info50, HZ.out]) ?_))
      refine (HLt.out _ (Kd.C_below HR2.out (HB1.out))).mono ?_
      rintro e w2 ⟨rfl, hb2⟩
      have HB2 := Aside0.mk (below_then HB1.out HB1.out.size hb2)
      clear hb2
      go_wp2_with fail
      go_ret2
      exact ⟨rfl, HB2.out⟩
  · have hK : IsQPost n l s w = fun e w' => e = .returned (.tuple #[.bool false, .int .i64 (ofE n l)]) ∧ Below w.heap.size w w' := by funext e w'; simp [IsQPost, he]
    rw [hK]
    have hb : (ofE n l != 0) = true := bne_iff_ne.2 he
    have hb' : (ofE n l == 0) = false := beq_eq_false_iff_ne.2 he
    clear hK he
    generalize ofE n l = er at *
    go_enter Try.func39, Try.ntmps39
    go_wp2_with fail
    refine HO.out.mono ?_
    rintro e w1 ⟨rfl, hb⟩
    have HB := Aside0.mk hb
    clear hb HO
    go_wp2_with (refine wpList_store_row rfl 50 _ _ rfl w1.heap.size (ofA n l) rfl rfl 50 (tnN 0 zero12) (heap_alloc_new w1 _) (by rw [info50, HZ.out]) (by rw [HZ.out]; rfl) H1.out ?_)
    go_ret2
    exact ⟨rfl, by rw [World.setRow_alloc_new]; exact below_alloc HB.out _⟩
end Go.Proofs.Ytmobefgnkiboaaa.Im

namespace Go.Proofs.Ytmobefgnkiboaaa.Im
open Go.RowKit Go.Proofs.YtmobefgnkiboaaaW.PrintWords Go.Proofs.YtmobefgnkiboaaaW.PrintLast Go.Proofs.YtmobefgnkiboaaaW.PrintMore
set_option linter.unusedVariables false
def viaQ (o : List Nat) (s a b : Nat) : Bool := (o.getD a 0).testBit b && (o.getD b 0 &&& s != 0)
def okQ (n : Nat) (o : List Nat) (s a : Nat) : Bool := s.testBit a || ((o.getD a 0 &&& s != 0) || (List.range n).any (viaQ o s a))
def quasiR (n : Nat) (o : List Nat) (s : Nat) : Bool := (List.range n).all (okQ n o s) && (List.range n).all (indB o s)
section
variable (n : Nat) (o : List Nat) (ok : Okt n o) (s : Nat)
include ok
theorem quasi_l1t (a : Nat) (ha : a < n) (R : Bool) (hg : Gives (fun k => pomaderef02_quasi.l0 k (ints (o.take n)) s ((a + 1 : Nat) : Int)) R) :
    ∀ (d b : Nat), b + d = n → Gives (fun k => pomaderef02_quasi.l1 k (ints (o.take n)) s a true b) R
  | 0, b, h => by
    have hTl := takes_len ok
    have n12 := ok.n12
    refine hg.step fun k hk => ?_
    simp only [pomaderef02_quasi.l1]
    rw [if_neg (by omega), if_pos trivial, wr_succ a (by omega)]
    exact hk
  | d + 1, b, h => by
    have hTl := takes_len ok
    have n12 := ok.n12
    refine (quasi_l1t a ha R hg d (b + 1) (by omega)).step fun k hk => ?_
    simp only [pomaderef02_quasi.l1]
    rw [if_pos (by omega), if_pos trivial, wr_succ b (by omega)]
    exact hk
variable (hs : s < 4096)
include hs
theorem quasi_l1f (a : Nat) (ha : a < n) (R : Bool) (hno : (List.range n).any (viaQ o s a) = false → R = false) (hg : (List.range n).any (viaQ o s a) = true → Gives (fun k => pomaderef02_quasi.l0 k (ints (o.take n)) s ((a + 1 : Nat) : Int)) R) :
    ∀ (d b : Nat), b + d = n → (∀ j, j < b → viaQ o s a j = false) → Gives (fun k => pomaderef02_quasi.l1 k (ints (o.take n)) s a false b) R
  | 0, b, h, hq => by
    have hTl := takes_len ok
    rw [hno (by rw [List.any_eq_false]; intro x hx; rw [hq x (by have := List.mem_range.1 hx; omega)]; simp)]
    refine Gives.now fun k => ?_
    simp only [pomaderef02_quasi.l1]
    rw [if_neg (by omega), if_neg (by simp)]
  | d + 1, b, h, hq => by
    have hTl := takes_len ok
    have n12 := ok.n12
    have hoa := ok.lt12 a
    have hob := ok.lt12 b
    have next : viaQ o s a b = false → Gives (fun k => pomaderef02_quasi.l1 k (ints (o.take n)) s a false ((b + 1 : Nat) : Int)) R := fun hb =>
      quasi_l1f a ha R hno hg d (b + 1) (by omega) (fun j hj => by
        rcases Nat.lt_or_ge j b with h1 | h1
        · exact hq j h1
        · obtain rfl : j = b := by omega
          exact hb)
    cases h1 : (o.getD a 0).testBit b with
    | false =>
      refine (next (by unfold viaQ; rw [h1]; rfl)).step fun k hk => ?_
      simp only [pomaderef02_quasi.l1]
      rw [if_pos (by omega), if_neg (by simp), if_pos (by omega), if_pos (by omega), if_pos (by omega), rd_takes o n a ha, if_neg (by rw [tbit1 _ _ (by omega), h1]; simp), wr_succ b (by omega)]
      exact hk
    | true =>
      by_cases h0 : o.getD b 0 &&& s = 0
      · have e : ((((o.getD b 0 &&& s : Nat)) : Int) != 0) = false := by rw [h0]; rfl
        refine (next (by unfold viaQ; rw [h0]; simp)).step fun k hk => ?_
        simp only [pomaderef02_quasi.l1]
        rw [if_pos (by omega), if_neg (by simp), if_pos (by omega), if_pos (by omega), if_pos (by omega), rd_takes o n a ha, if_pos (by rw [tbit1 _ _ (by omega), h1]), rd_takes o n b (by omega), b_and _ _ (by omega) (by omega), e, wr_succ b (by omega)]
        exact hk
      · have e : ((((o.getD b 0 &&& s : Nat)) : Int) != 0) = true := by rw [bne_iff_ne]; omega
        have hv : (List.range n).any (viaQ o s a) = true := by
          rw [List.any_eq_true]
          exact ⟨b, List.mem_range.2 (by omega), by unfold viaQ; rw [h1]; simpa using h0⟩
        refine (quasi_l1t n o ok s a ha R (hg hv) d (b + 1) (by omega)).step fun k hk => ?_
        simp only [pomaderef02_quasi.l1]
        rw [if_pos (by omega), if_neg (by simp), if_pos (by omega), if_pos (by omega), if_pos (by omega), rd_takes o n a ha, if_pos (by rw [tbit1 _ _ (by omega), h1]), rd_takes o n b (by omega), b_and _ _ (by omega) (by omega), e, wr_succ b (by omega)]
        exact hk
theorem quasi_l0 : ∀ (d a : Nat), a + d = n → (∀ j, j < a → okQ n o s j = true) → Gives (fun k => pomaderef02_quasi.l0 k (ints (o.take n)) s a) (quasiR n o s)
  | 0, a, h, hq => by
    have hTl := takes_len ok
    have e : quasiR n o s = (List.range n).all (indB o s) := by
      unfold quasiR
      have : (List.range n).all (okQ n o s) = true := by
        rw [List.all_eq_true]; intro x hx
        exact hq x (by have := List.mem_range.1 hx; omega)
      rw [this, Bool.true_and]
    rw [e]
    refine (ind_g n o ok s hs).step fun k hk => ?_
    simp only [pomaderef02_quasi.l0]
    rw [if_neg (by omega), hk, Option.bind_some]
  | d + 1, a, h, hq => by
    have hTl := takes_len ok
    have n12 := ok.n12
    have hoa := ok.lt12 a
    have next : okQ n o s a = true → Gives (fun k => pomaderef02_quasi.l0 k (ints (o.take n)) s ((a + 1 : Nat) : Int)) (quasiR n o s) := fun hb =>
      quasi_l0 d (a + 1) (by omega) (fun j hj => by
        rcases Nat.lt_or_ge j a with h1 | h1
        · exact hq j h1
        · obtain rfl : j = a := by omega
          exact hb)
    have no : okQ n o s a = false → quasiR n o s = false := fun hb => by
      unfold quasiR
      have : (List.range n).all (okQ n o s) = false := by
        rw [List.all_eq_false]; exact ⟨a, List.mem_range.2 (by omega), by rw [hb]; simp⟩
      rw [this, Bool.false_and]
    cases h1 : s.testBit a with
    | true =>
      have hj : Gives (fun k => pomaderef02_quasi.j1 k (ints (o.take n)) s a true) (quasiR n o s) := by
        refine (quasi_l1t n o ok s a (by omega) _ (next (by unfold okQ; rw [h1]; rfl)) n 0 (by omega)).step fun k hk => ?_
        simp only [pomaderef02_quasi.j1]
        exact hk
      refine hj.step fun k hk => ?_
      simp only [pomaderef02_quasi.l0]
      rw [if_pos (by omega), if_pos (by omega), if_pos (by rw [tbit1 _ _ (by omega), h1])]
      exact hk
    | false =>
      by_cases h0 : o.getD a 0 &&& s = 0
      · have e : ((((o.getD a 0 &&& s : Nat)) : Int) != 0) = false := by rw [h0]; rfl
        have hj : Gives (fun k => pomaderef02_quasi.j1 k (ints (o.take n)) s a false) (quasiR n o s) := by
          refine (quasi_l1f n o ok s hs a (by omega) _ (fun hv => no (by unfold okQ; rw [h1, h0, hv]; rfl)) (fun hv => next (by unfold okQ; rw [hv]; simp)) n 0 (by omega) (fun j hj => by omega)).step fun k hk => ?_
          simp only [pomaderef02_quasi.j1]
          exact hk
        refine hj.step fun k hk => ?_
        simp only [pomaderef02_quasi.l0]
        rw [if_pos (by omega), if_pos (by omega), if_neg (by rw [tbit1 _ _ (by omega), h1]; simp), rd_takes o n a (by omega), b_and _ _ (by omega) (by omega), e]
        exact hk
      · have e : ((((o.getD a 0 &&& s : Nat)) : Int) != 0) = true := by rw [bne_iff_ne]; omega
        have hj : Gives (fun k => pomaderef02_quasi.j1 k (ints (o.take n)) s a true) (quasiR n o s) := by
          refine (quasi_l1t n o ok s a (by omega) _ (next (by unfold okQ; rw [bne_iff_ne.2 h0]; simp)) n 0 (by omega)).step fun k hk => ?_
          simp only [pomaderef02_quasi.j1]
          exact hk
        refine hj.step fun k hk => ?_
        simp only [pomaderef02_quasi.l0]
        rw [if_pos (by omega), if_pos (by omega), if_neg (by rw [tbit1 _ _ (by omega), h1]; simp), rd_takes o n a (by omega), b_and _ _ (by omega) (by omega), e]
        exact hk
end
theorem quasiR_eq {n : Nat} {o : List Nat} (ok : Okt n o) (s : Nat) : quasiR n o s = quaB n o s := by
  have n12 := ok.n12
  have key : ∀ a, a < n → okQ n o s a = absB (rchO n o) s (2 ^ n - 1) a := fun a ha => by
    have hw : (rchO n o).getD a 0 = rchN o a := by unfold rchO; rw [turnF_get _ _ _ _ (by omega), if_pos ha]
    have hb : (2 ^ n - 1).testBit a = true := by rw [Nat.testBit_two_pow_sub_one, decide_eq_true ha]
    unfold okQ absB
    rw [hw, hb, Bool.true_and, Bool.not_not]
    congr 1
    rw [Bool.eq_iff_iff, Bool.or_eq_true, bne_iff_ne, bne_iff_ne, List.any_eq_true]
    unfold rchN
    have nz : ∀ x : Nat, x &&& s ≠ 0 ↔ ∃ i, x.testBit i = true ∧ s.testBit i = true := fun x => by
      rw [Ne, land_zero]
      constructor
      · intro h
        apply Classical.byContradiction
        intro h'
        exact h fun i hi => h' ⟨i, hi⟩
      · rintro ⟨i, hi⟩ h
        exact h i hi
    rw [nz, nz]
    constructor
    · rintro (⟨i, h1, h2⟩ | ⟨b, hb, h3⟩)
      · exact ⟨i, by rw [reachL_bit, h1]; rfl, h2⟩
      · unfold viaQ at h3
        rw [Bool.and_eq_true, bne_iff_ne, nz] at h3
        obtain ⟨h3, i, h4, h5⟩ := h3
        refine ⟨i, ?_, h5⟩
        rw [reachL_bit, Bool.or_eq_true]
        refine .inr (List.any_eq_true.2 ⟨b, (memL_mem _ _).2 ⟨?_, h3⟩, h4⟩)
        have := List.mem_range.1 hb; omega
    · rintro ⟨i, h1, h2⟩
      rw [reachL_bit, Bool.or_eq_true] at h1
      rcases h1 with h1 | h1
      · exact .inl ⟨i, h1, h2⟩
      · obtain ⟨b, hb, h3⟩ := List.any_eq_true.1 h1
        refine .inr ⟨b, List.mem_range.2 (mem_lt (ok.lt a) hb), ?_⟩
        unfold viaQ
        rw [((memL_mem _ _).1 hb).2, Bool.true_and, bne_iff_ne, nz]
        exact ⟨i, h3, h2⟩
  unfold quasiR quaB AllB
  rw [Bool.eq_iff_iff, Bool.and_eq_true, List.all_eq_true, List.all_eq_true, List.all_eq_true]
  constructor
  · rintro ⟨h1, h2⟩ a ha
    rw [h2 a ha, ← key a (List.mem_range.1 ha), h1 a ha]; rfl
  · intro h
    refine ⟨fun a ha => ?_, fun a ha => ?_⟩
    · have := h a ha
      rw [Bool.and_eq_true] at this
      rw [key a (List.mem_range.1 ha)]; exact this.2
    · have := h a ha
      rw [Bool.and_eq_true] at this
      exact this.1
theorem quasi_g (n : Nat) (o : List Nat) (ok : Okt n o) (s : Nat) (hs : s < 4096) : Gives (fun k => pomaderef02_quasi.f k (ints (o.take n)) s) (quaB n o s) := by
  rw [← quasiR_eq ok s]
  exact quasi_l0 n o ok s hs n 0 (by omega) (fun j hj => by omega)
theorem IsQuasi_g (n : Int) (l : List S43) (s : List Int) (hs : s.length < 1000000) : Gives (fun k => pomaderef02_IsQuasi.f k n l s) ((if ofE n l = 0 then isQ n.toNat (townO l) s else false), ofE n l) := by
  have hT := Town_g n l
  by_cases he : ofE n l = 0
  · have hn := (ofE_ok he).1
    have ok := okt_of he
    rw [if_pos he] at hT
    rw [if_pos he, he]
    obtain ⟨m, rfl⟩ : ∃ m : Nat, n = m := ⟨n.toNat, by omega⟩
    rw [Int.toNat_natCast] at *
    have n12 := ok.n12
    have hS := Set_g m s n12 hs
    unfold isQ
    by_cases ha : AscTo m s s.length
    · rw [if_pos ha] at hS
      rw [decide_eq_true ha, Bool.true_and]
      have hlt := setOf_lt m s s.length (Nat.le_refl _) ha
      rw [List.take_length] at hlt
      have h12 : (2 : Nat) ^ m ≤ 2 ^ 12 := Nat.pow_le_pow_right (by decide) n12
      have hK := quasi_g m (townO l) ok (setOf s) (by omega)
      refine (hT.both hS).map2 hK fun k hk hk2 => ?_
      cases e1 : pomaderef02_Town.f k m l with
      | none => rw [e1] at hk; cases hk
      | some x =>
        cases e2 : pomaderef02_Set.f k m s with
        | none => simp only [e1, e2, Option.bind_some] at hk; cases hk
        | some y =>
          simp only [e1, e2, Option.bind_some, Option.map_some, Option.some.injEq, Prod.mk.injEq] at hk
          obtain ⟨rfl, rfl⟩ := hk
          simp only [pomaderef02_IsQuasi.f]
          rw [e1, Option.bind_some, if_pos rfl, e2, Option.bind_some, if_pos rfl]
          show (pomaderef02_quasi.f k (ints ((townO l).take (m : Int).toNat)) _).bind _ = _
          rw [Int.toNat_natCast, hk2]; rfl
    · rw [if_neg ha] at hS
      rw [decide_eq_false ha, Bool.false_and]
      refine hT.map2 hS fun k hk hk2 => ?_
      simp only [pomaderef02_IsQuasi.f]
      rw [hk, Option.bind_some, if_pos rfl, hk2, Option.bind_some, if_neg (by simp)]
  · rw [if_neg he] at hT
    rw [if_neg he]
    refine hT.map fun k hk => ?_
    simp only [pomaderef02_IsQuasi.f]
    rw [hk, Option.bind_some, if_neg he]
theorem HasQuasi_l0 {n : Nat} {o : List Nat} (ok : Okt n o) : ∀ (d s : Nat), s + d = 2 ^ n → (∀ j, j < s → quaB n o j = false) → Gives (fun k => pomaderef02_HasQuasi.l0 k n (ints (o.take n)) 0 s) ((List.range (2 ^ n)).any (quaB n o))
  | 0, s, h, hq => by
    have n12 := ok.n12
    have : (List.range (2 ^ n)).any (quaB n o) = false := by
      rw [List.any_eq_false]; intro x hx; rw [hq x (by have := List.mem_range.1 hx; omega)]; simp
    rw [this]
    have hj : Gives (fun k => pomaderef02_HasQuasi.j1 k n (ints (o.take n)) 0 s false) false := Gives.now fun k => by
      simp only [pomaderef02_HasQuasi.j1]
      rw [if_neg (by simp)]
    refine hj.step fun k hk => ?_
    simp only [pomaderef02_HasQuasi.l0]
    rw [if_pos (by omega), shl1 n (by omega), if_neg (by omega)]
    exact hk
  | d + 1, s, h, hq => by
    have n12 := ok.n12
    have h12 : (2 : Nat) ^ n ≤ 2 ^ 12 := Nat.pow_le_pow_right (by decide) n12
    have hQ := quasi_g n o ok s (by omega)
    have hj : Gives (fun k => pomaderef02_HasQuasi.j1 k n (ints (o.take n)) 0 s true) ((List.range (2 ^ n)).any (quaB n o)) := by
      cases hb : quaB n o s with
      | true =>
        have : (List.range (2 ^ n)).any (quaB n o) = true := List.any_eq_true.2 ⟨s, List.mem_range.2 (by omega), hb⟩
        rw [this]
        rw [hb] at hQ
        refine hQ.step fun k hk => ?_
        simp only [pomaderef02_HasQuasi.j1]
        rw [if_pos trivial, hk, Option.bind_some, if_pos rfl]
      | false =>
        rw [hb] at hQ
        refine hQ.step2 (HasQuasi_l0 ok d (s + 1) (by omega) (fun j hj => by
          rcases Nat.lt_or_ge j s with h1 | h1
          · exact hq j h1
          · obtain rfl : j = s := by omega
            exact hb)) fun k hk hk2 => ?_
        simp only [pomaderef02_HasQuasi.j1]
        rw [if_pos trivial, hk, Option.bind_some, if_neg (by simp), wr_succ s (by omega)]
        exact hk2
    refine hj.step fun k hk => ?_
    simp only [pomaderef02_HasQuasi.l0]
    rw [if_pos (by omega), shl1 n (by omega), if_pos (by omega)]
    exact hk
theorem quaB_zero {n : Nat} (o : List Nat) (h : 1 ≤ n) : quaB n o 0 = false := by
  unfold quaB AllB
  rw [List.all_eq_false]
  refine ⟨0, List.mem_range.2 (by omega), ?_⟩
  unfold absB
  have hb : (2 ^ n - 1).testBit 0 = true := by rw [Nat.testBit_two_pow_sub_one, decide_eq_true (by omega)]
  rw [hb, Nat.and_zero]
  simp
theorem HasQuasi_g {n : Int} {l : List S43} (he : ofE n l = 0) : Gives (fun k => pomaderef02_HasQuasi.f k n l) (quaO n l).isSome := by
  have hT := Town_g n l
  have hn := (ofE_ok he).1
  have ok := okt_of he
  rw [if_pos he] at hT
  unfold quaO
  obtain ⟨m, rfl⟩ : ∃ m : Nat, n = m := ⟨n.toNat, by omega⟩
  rw [Int.toNat_natCast] at *
  have hs := firstS_spec (fun s => quaB m (townO l) s) m ok.n12 (quaB_zero _ ok.n1)
  have hr : (List.range (2 ^ m)).any (quaB m (townO l)) = ((firstS (fun s => quaB m (townO l) s) m).map memL).isSome := by
    cases hf : firstS (fun s => quaB m (townO l) s) m with
    | none =>
      rw [List.any_eq_false.2 (fun x hx => by rw [hs.2 hf x (List.mem_range.1 hx)]; simp)]
      rfl
    | some t =>
      have := hs.1 t hf
      rw [List.any_eq_true.2 ⟨t, List.mem_range.2 this.1, this.2.1⟩]
      rfl
  rw [← hr]
  refine hT.map2 (HasQuasi_l0 ok (2 ^ m) 0 (by omega) (fun j hj => by omega)) fun k hk hk2 => ?_
  simp only [pomaderef02_HasQuasi.f]
  rw [hk, Option.bind_some]
  exact hk2
theorem refIsQuasi_any (n : Int) (A : Option Addr) (c : Nat) (l : List S43) (B : Option Addr) (d : Nat) (s : List Int) (w : World) (hr : Kd.C k43 w A l.length l) (hc : l.length ≤ c)
    (hr2 : Kd.C (Kd.int .i64) w B s.length s) (hd : s.length ≤ d) (hs : s.length < 1000000) :
    Calls Try.prog 40 #[.int .i64 n, .slice A l.length c, .slice B s.length d] w (IsQPost n l s w) := by
  obtain ⟨k0, hk0⟩ := IsQuasi_g n l s hs
  exact pomaderef02_IsQuasi.calls k0 n A c l B d s _ _ w hr hc hr2 hd (hk0 k0 (Nat.le_refl _))
theorem hasQuasi_any {n : Int} (A : Option Addr) (c : Nat) {l : List S43} (w : World) (he : ofE n l = 0) (hr : Kd.C k43 w A l.length l) (hc : l.length ≤ c) :
    Calls Try.prog 42 #[.int .i64 n, .slice A l.length c] w fun e w' => e = .returned (.bool (quaO n l).isSome) ∧ Below w.heap.size w w' := by
  obtain ⟨k0, hk0⟩ := HasQuasi_g he
  exact pomaderef02_HasQuasi.calls k0 n A c l _ w hr hc (hk0 k0 (Nat.le_refl _))
/-- What Quasi returns is a quasi-kernel. -/
theorem isQ_found {n : Int} {l : List S43} (he : ofE n l = 0) {r : List Nat} (h : quaO n l = some r) : isQ n.toNat (townO l) (ints r) = true := by
  have ok := okt_of he
  unfold quaO at h
  rw [Option.map_eq_some_iff] at h
  obtain ⟨t, ht, rfl⟩ := h
  obtain ⟨h1, h2, _⟩ := (firstS_spec (fun s => quaB n.toNat (townO l) s) n.toNat ok.n12 (quaB_zero _ ok.n1)).1 t ht
  have h12 : (2 : Nat) ^ n.toNat ≤ 2 ^ 12 := Nat.pow_le_pow_right (by decide) ok.n12
  have hset : setOf (ints (memL t)) = t := by
    apply Nat.eq_of_testBit_eq
    intro i
    rw [setOf_bit, Bool.eq_iff_iff, decide_eq_true_eq, memL_mem]
    constructor
    · exact fun h => h.2
    · intro h
      refine ⟨?_, h⟩
      rcases Nat.lt_or_ge i 12 with h3 | h3
      · exact h3
      · rw [Nat.testBit_lt_two_pow (Nat.lt_of_lt_of_le h1 (Nat.le_trans h12 (Nat.pow_le_pow_right (by decide) h3)))] at h; cases h
  unfold isQ
  rw [hset, h2, Bool.and_true, decide_eq_true_eq]
  exact asc_of (memL_sorted t) (fun x hx => mem_lt h1 hx)
end Go.Proofs.Ytmobefgnkiboaaa.Im

namespace Go.Proofs.Ytmobefgnkiboaaa.Im
open Go.RowKit Go.Proofs.YtmobefgnkiboaaaW.PrintWords Go.Proofs.YtmobefgnkiboaaaW.PrintLast Go.Proofs.YtmobefgnkiboaaaW.PrintMore
set_option linter.unusedVariables false
/-- Is there a walk with so many arcs? -/
def wkB (o : List Nat) : Nat → Nat → Nat → Bool
  | 0, a, b => a == b
  | L + 1, a, b => (memL (o.getD a 0)).any fun c => wkB o L c b
/-- The number of arcs of a shortest walk, odd (1) or even (0); 99: none. -/
def dF (o : List Nat) (a b p : Nat) : Nat := ((List.range 99).find? fun L => L % 2 == p && wkB o L a b).getD 99
/-- A way from a person to a last one. -/
structure Wy (o : List Nat) (n z : Nat) (way : List Nat) (last : Nat) : Prop where
  ne : way ≠ []
  hd : way.headD 0 = z
  la : way.getLastD 0 = last
  lt : ∀ x ∈ way, x < n
  nd : way.Nodup
  wk : ∀ x ∈ way, ∃ p q, p + q + 1 = way.length ∧ wkB o p z x = true ∧ wkB o q x last = true
theorem Wy.one (o : List Nat) {n z : Nat} (h : z < n) : Wy o n z [z] z :=
  ⟨by simp, rfl, rfl, fun x hx => by rw [List.mem_singleton.1 hx]; exact h, by simp, fun x hx => by rw [List.mem_singleton.1 hx]; exact ⟨0, 0, rfl, by simp [wkB], by simp [wkB]⟩⟩
end Go.Proofs.Ytmobefgnkiboaaa.Im

namespace Go.Proofs.Ytmobefgnkiboaaa.Im
open Go.RowKit Go.Proofs.YtmobefgnkiboaaaW.PrintWords Go.Proofs.YtmobefgnkiboaaaW.PrintLast Go.Proofs.YtmobefgnkiboaaaW.PrintMore
set_option linter.unusedVariables false
def okT (o T : List Nat) (a b p : Nat) : Prop := (o.getD a 0).testBit b = true → T.getD (2 * b + (1 - p)) 0 ≤ T.getD (2 * a + p) 0 + 1
/-- The table in a block: two cells for each person. -/
def Tb (w : World) (g : Nat) (T : List Nat) : Prop := ∃ ex : List Value, Blk w g 69 (nums .i64 (ints T) ++ ex).toArray
theorem Tb.cell {w : World} {g : Nat} {T : List Nat} (h : Tb w g T) (i : Nat) (hi : i < T.length) : w.cell? ⟨g, i, none⟩ = some (.int .i64 (T.getD i 0 : Nat)) := by
  obtain ⟨ex, hb⟩ := h
  rw [hb.cell]
  have hl : (nums .i64 (ints T)).length = T.length := by rw [nums_length, ints_length]
  rw [List.getElem?_toArray, List.getElem?_append_left (by omega)]
  simp [nums, ints, hi]
theorem Tb.frozen {w : World} {g : Nat} {T : List Nat} (h : Tb w g T) (i : Nat) : w.frozen? ⟨g, i, none⟩ = false := by
  obtain ⟨ex, hb⟩ := h
  exact hb.frozen i
theorem Tb.set_ {w : World} {g : Nat} {T : List Nat} (h : Tb w g T) (i v : Nat) (hi : i < T.length) : Tb (w.setCell ⟨g, i, none⟩ (.int .i64 (v : Nat))) g (T.set i v) := by
  obtain ⟨ex, hb⟩ := h
  refine ⟨ex, ?_⟩
  have := Blk.set_ hb i (.int .i64 (v : Nat))
  have hl : (nums .i64 (ints T)).length = T.length := by rw [nums_length, ints_length]
  have e : ((nums .i64 (ints T) ++ ex).toArray).setIfInBounds i (.int .i64 (v : Nat)) = (nums .i64 (ints (T.set i v)) ++ ex).toArray := by
    rw [List.setIfInBounds_toArray, List.set_append_left _ _ (by omega)]
    simp [nums, ints, List.map_set]
  rw [e] at this
  exact this
theorem Tb.later {w w' : World} {g : Nat} {T : List Nat} (h : Tb w g T) (hb : Below w.heap.size w w') : Tb w' g T := by
  obtain ⟨ex, h⟩ := h
  exact ⟨ex, h.later hb⟩
theorem Tb.lt {w : World} {g : Nat} {T : List Nat} (h : Tb w g T) : g < w.heap.size := by
  obtain ⟨ex, h⟩ := h
  exact h.lt
end Go.Proofs.Ytmobefgnkiboaaa.Im

namespace Go.Proofs.Ytmobefgnkiboaaa.Im
open Go.RowKit Go.Proofs.YtmobefgnkiboaaaW.PrintWords Go.Proofs.YtmobefgnkiboaaaW.PrintLast Go.Proofs.YtmobefgnkiboaaaW.PrintMore
set_option linter.unusedVariables false
/-- What a part of a round has done: something got shorter, or nothing can. -/
def Rnd (o : List Nat) (n : Nat) (T T' : List Nat) (ag : Bool) (done : Nat → Nat → Nat → Prop) : Prop :=
  if ag then T'.sum < T.sum else T' = T ∧ ∀ a b p, a < n → b < n → p < 2 → done a b p → okT o T a b p
theorem Rnd.same {o : List Nat} {n : Nat} {T T' : List Nat} {d : Nat → Nat → Nat → Prop} (h : Rnd o n T T' false d) : T' = T := h.1
end Go.Proofs.Ytmobefgnkiboaaa.Im

namespace Go.Proofs.Ytmobefgnkiboaaa.Im
open Go.RowKit Go.Proofs.YtmobefgnkiboaaaW.PrintWords Go.Proofs.YtmobefgnkiboaaaW.PrintLast Go.Proofs.YtmobefgnkiboaaaW.PrintMore
set_option linter.unusedVariables false
def NoB (o : List Nat) (z last d b : Nat) : Prop := ∀ j, j < b → ((o.getD last 0).testBit j && dF o j z (d % 2) == d) = false
theorem NoB.succ {o : List Nat} {z last d b : Nat} (h : NoB o z last d b) (h1 : ((o.getD last 0).testBit b && dF o b z (d % 2) == d) = false) : NoB o z last d (b + 1) := fun j hj => by
  rcases Nat.lt_or_ge j b with hlt | hge
  · exact h j hlt
  · obtain rfl : j = b := by omega
    exact h1
end Go.Proofs.Ytmobefgnkiboaaa.Im

namespace Go.Proofs.Ytmobefgnkiboaaa.Im
open Go.RowKit Go.Proofs.YtmobefgnkiboaaaW.PrintWords Go.Proofs.YtmobefgnkiboaaaW.PrintLast Go.Proofs.YtmobefgnkiboaaaW.PrintMore
set_option linter.unusedVariables false
theorem memO_len (n : Int) (l : List S43) (x : Option Nat) : (listF n l (x.map memL)).length < 1000000 := by
  unfold listF
  split
  · cases x with
    | none => simp
    | some t => have := memL_len t; simp; omega
  · simp
theorem same_out {K : List Nat} (A7 A6 : Option Addr) (c7 c6 : Nat) (w : World) (hK : K.length < 1000000) (hA : Kd.C (Kd.int .i64) w A6 K.length (ints K)) (ha : K.length ≤ c6) (hB : Kd.C (Kd.int .i64) w A7 K.length (ints K)) (hb : K.length ≤ c7) :
    Calls Try.prog 18 #[.slice A6 K.length c6, .slice A7 K.length c7] w fun e w' => e = .returned (.bool true) ∧ Below w.heap.size w w' := by
  have h := same_any (ints K) A6 A7 c6 c7 w (by rw [ints_length]; exact hK) (by rw [ints_length]; exact hA) (by rw [ints_length]; exact ha) (by rw [ints_length]; exact hB) (by rw [ints_length]; exact hb)
  rw [ints_length] at h
  exact h
end Go.Proofs.Ytmobefgnkiboaaa.Im

namespace Go.Proofs.Ytmobefgnkiboaaa.Im
open Go.RowKit Go.Proofs.YtmobefgnkiboaaaW.PrintWords Go.Proofs.YtmobefgnkiboaaaW.PrintLast Go.Proofs.YtmobefgnkiboaaaW.PrintMore
set_option linter.unusedVariables false
set_option maxHeartbeats 3200000 in
set_option maxRecDepth 100000 in
theorem law11_any (n : Int) (A : Option Addr) (c : Nat) (l : List S43) (D : Option Addr) (d : Nat) (st : List Int) (w : World) (hr : Kd.C k43 w A l.length l) (hc : l.length ≤ c) (hr2 : Kd.C (Kd.int .i64) w D st.length st) (hd : st.length ≤ d) :
    Calls Try.prog 11 #[.int .i64 n, .slice A l.length c, .slice D st.length d] w fun e w' => e = .returned (.bool true) ∧ Below w.heap.size w w' := by
  have HF := Aside0.mk (few_any A D c d l st w hr hc hr2 hd)
  have HR := Aside0.mk hr
  have HD := Aside0.mk hr2
  clear hr hr2
  cases hf : (decide (l.length ≤ 150) && decide (st.length ≤ 50)) with
  | false =>
    rw [hf] at HF
    clear hf
    go_enter Try.func11, Try.ntmps11
    go_wp2_with fail
    refine (HF.out).mono ?_
    rintro e w1 ⟨rfl, hb1⟩
    have HB1 := Aside0.mk (hb1)
    clear hb1
    go_wp2_with fail
    refine (alive_any _).mono ?_
    rintro e w2 ⟨rfl, hb2⟩
    have HB2 := Aside0.mk (below_then HB1.out HB1.out.size hb2)
    clear hb2
    go_wp2_with fail
    go_ret
    exact ⟨rfl, HB2.out⟩
  | true =>
    rw [hf] at HF
    rw [Bool.and_eq_true, decide_eq_true_eq, decide_eq_true_eq] at hf
    obtain ⟨hf1, hf2⟩ := hf
    have HI := Aside0.mk (fun (w : World) h1 h3 => IsQuasiP_any n A c l D d st w h1 hc h3 hd (by omega))
    have HI' := Aside0.mk (fun (w : World) h1 h3 => refIsQuasi_any n A c l D d st w h1 hc h3 hd (by omega))
    have HI2 := Aside0.mk (fun (B : Option Addr) (q : Nat) (xs : List Int) (w : World) h1 h3 h4 h5 => refIsQuasi_any n A c l B q xs w h1 hc h3 h4 h5)
    unfold IsQPost at HI HI' HI2
    have HQ := Aside0.mk (fun (w : World) h1 => progQuasi_any n A c l w h1 hc)
    have HH := Aside0.mk (fun (w : World) he h1 => hasQuasi_any (n := n) A c w he h1 hc)
    have hl1 : (listF n l (quaO n l)).length < 1000000 := memO_len n l _
    by_cases he : ofE n l = 0
    · simp only [he, if_true] at HI HI' HI2
      have HFd := Aside0.mk (fun (r : List Nat) h => isQ_found (n := n) (l := l) he (r := r) h)
      have HH2 := Aside0.mk (HH.out · he)
      unfold listF errF at HQ
      unfold listF at hl1
      simp only [he, if_true] at HQ hl1
      generalize isQ n.toNat (townO l) st = b1 at *
      generalize isQ n.toNat (townO l) = isq at *
      clear HH he
      have e1 : (b1 != b1) = false := by simp
      cases hq : quaO n l with
      | none =>
        rw [hq] at HQ HH2 hl1
        simp only [Option.getD_none, Option.isSome_none, Bool.false_eq_true, if_false] at HQ HH2 hl1
        clear hq HFd HI2
        go_enter Try.func11, Try.ntmps11
        go_wp2_with fail
        refine (HF.out).mono ?_
        rintro e w1 ⟨rfl, hb1⟩
        have HB1 := Aside0.mk (hb1)
        have HR_1 := Aside0.mk (Kd.C_below HR.out hb1)
        have HD_1 := Aside0.mk (Kd.C_below HD.out hb1)
        clear hb1
        go_wp2_with fail
        refine (HI.out _ HR_1.out HD_1.out).mono ?_
        rintro e w2 ⟨rfl, hb2⟩
        have HB2 := Aside0.mk (below_then HB1.out HB1.out.size hb2)
        have HR_2 := Aside0.mk (Kd.C_below HR_1.out hb2)
        have HD_2 := Aside0.mk (Kd.C_below HD_1.out hb2)
        clear hb2
        go_wp2_with fail
        refine (HI'.out _ HR_2.out HD_2.out).mono ?_
        rintro e w3 ⟨rfl, hb3⟩
        have HB3 := Aside0.mk (below_then HB2.out HB2.out.size hb3)
        have HR_3 := Aside0.mk (Kd.C_below HR_2.out hb3)
        have HD_3 := Aside0.mk (Kd.C_below HD_2.out hb3)
        clear hb3
        go_wp2_with fail
        refine (HQ.out _ HR_3.out).mono ?_
        rintro e w4 ⟨A4, c4, rfl, hc4, hC4, hb4⟩
        have HB4 := Aside0.mk (below_then HB3.out HB3.out.size hb4)
        have HR_4 := Aside0.mk (Kd.C_below HR_3.out hb4)
        have HD_4 := Aside0.mk (Kd.C_below HD_3.out hb4)
        have QA_4 := Aside0.mk (hC4)
        clear hb4
        clear hC4
        go_wp2_with fail
        refine (HQ.out _ HR_4.out).mono ?_
        rintro e w5 ⟨A5, c5, rfl, hc5, hC5, hb5⟩
        have HB5 := Aside0.mk (below_then HB4.out HB4.out.size hb5)
        have HR_5 := Aside0.mk (Kd.C_below HR_4.out hb5)
        have HD_5 := Aside0.mk (Kd.C_below HD_4.out hb5)
        have QA_5 := Aside0.mk (Kd.C_below QA_4.out hb5)
        have QB_5 := Aside0.mk (hC5)
        clear hb5
        clear hC5
        go_wp2_with fail
        refine (same_out A5 A4 c5 c4 _ hl1 QA_5.out hc4 QB_5.out hc5).mono ?_
        rintro e w6 ⟨rfl, hb6⟩
        have HB6 := Aside0.mk (below_then HB5.out HB5.out.size hb6)
        have HR_6 := Aside0.mk (Kd.C_below HR_5.out hb6)
        have HD_6 := Aside0.mk (Kd.C_below HD_5.out hb6)
        have QA_6 := Aside0.mk (Kd.C_below QA_5.out hb6)
        have QB_6 := Aside0.mk (Kd.C_below QB_5.out hb6)
        clear hb6
        go_wp2_with fail
        refine (HH2.out _ HR_6.out).mono ?_
        rintro e w7 ⟨rfl, hb7⟩
        have HB7 := Aside0.mk (below_then HB6.out HB6.out.size hb7)
        have HR_7 := Aside0.mk (Kd.C_below HR_6.out hb7)
        have HD_7 := Aside0.mk (Kd.C_below HD_6.out hb7)
        have QA_7 := Aside0.mk (Kd.C_below QA_6.out hb7)
        clear hb7
        go_wp2_with fail
        refine (alive_any _).mono ?_
        rintro e w8 ⟨rfl, hb8⟩
        have HB8 := Aside0.mk (below_then HB7.out HB7.out.size hb8)
        have HR_8 := Aside0.mk (Kd.C_below HR_7.out hb8)
        have HD_8 := Aside0.mk (Kd.C_below HD_7.out hb8)
        have QA_8 := Aside0.mk (Kd.C_below QA_7.out hb8)
        clear hb8
        go_wp2_with fail
        go_ret
        exact ⟨rfl, HB8.out⟩
      | some r =>
        rw [hq] at HQ hl1
        simp only [Option.getD_some, Option.isSome_some, if_true] at HQ hl1
        have hfd := HFd.out r hq
        have HFo := Aside0.mk hfd
        clear hq HH2 HFd hfd
        go_enter Try.func11, Try.ntmps11
        go_wp2_with fail
        refine (HF.out).mono ?_
        rintro e w1 ⟨rfl, hb1⟩
        have HB1 := Aside0.mk (hb1)
        have HR_1 := Aside0.mk (Kd.C_below HR.out hb1)
        have HD_1 := Aside0.mk (Kd.C_below HD.out hb1)
        clear hb1
        go_wp2_with fail
        refine (HI.out _ HR_1.out HD_1.out).mono ?_
        rintro e w2 ⟨rfl, hb2⟩
        have HB2 := Aside0.mk (below_then HB1.out HB1.out.size hb2)
        have HR_2 := Aside0.mk (Kd.C_below HR_1.out hb2)
        have HD_2 := Aside0.mk (Kd.C_below HD_1.out hb2)
        clear hb2
        go_wp2_with fail
        refine (HI'.out _ HR_2.out HD_2.out).mono ?_
        rintro e w3 ⟨rfl, hb3⟩
        have HB3 := Aside0.mk (below_then HB2.out HB2.out.size hb3)
        have HR_3 := Aside0.mk (Kd.C_below HR_2.out hb3)
        have HD_3 := Aside0.mk (Kd.C_below HD_2.out hb3)
        clear hb3
        go_wp2_with fail
        refine (HQ.out _ HR_3.out).mono ?_
        rintro e w4 ⟨A4, c4, rfl, hc4, hC4, hb4⟩
        have HB4 := Aside0.mk (below_then HB3.out HB3.out.size hb4)
        have HR_4 := Aside0.mk (Kd.C_below HR_3.out hb4)
        have HD_4 := Aside0.mk (Kd.C_below HD_3.out hb4)
        have QA_4 := Aside0.mk (hC4)
        clear hb4
        clear hC4
        go_wp2_with fail
        refine (HQ.out _ HR_4.out).mono ?_
        rintro e w5 ⟨A5, c5, rfl, hc5, hC5, hb5⟩
        have HB5 := Aside0.mk (below_then HB4.out HB4.out.size hb5)
        have HR_5 := Aside0.mk (Kd.C_below HR_4.out hb5)
        have HD_5 := Aside0.mk (Kd.C_below HD_4.out hb5)
        have QA_5 := Aside0.mk (Kd.C_below QA_4.out hb5)
        have QB_5 := Aside0.mk (hC5)
        clear hb5
        clear hC5
        go_wp2_with fail
        refine (same_out A5 A4 c5 c4 _ hl1 QA_5.out hc4 QB_5.out hc5).mono ?_
        rintro e w6 ⟨rfl, hb6⟩
        have HB6 := Aside0.mk (below_then HB5.out HB5.out.size hb6)
        have HR_6 := Aside0.mk (Kd.C_below HR_5.out hb6)
        have HD_6 := Aside0.mk (Kd.C_below HD_5.out hb6)
        have QA_6 := Aside0.mk (Kd.C_below QA_5.out hb6)
        have QB_6 := Aside0.mk (Kd.C_below QB_5.out hb6)
        clear hb6
        have HI3 := HI2.out A4 c4 (ints r) w6 HR_6.out (by rw [ints_length]; exact QA_6.out) (by rw [ints_length]; exact hc4) (by rw [ints_length]; exact hl1)
        rw [HFo.out, ints_length] at HI3
        have HI4 := Aside0.mk HI3
        clear HI3
        go_wp2_with fail
        refine (HI4.out).mono ?_
        rintro e w7 ⟨rfl, hb7⟩
        have HB7 := Aside0.mk (below_then HB6.out HB6.out.size hb7)
        have HR_7 := Aside0.mk (Kd.C_below HR_6.out hb7)
        have HD_7 := Aside0.mk (Kd.C_below HD_6.out hb7)
        have QA_7 := Aside0.mk (Kd.C_below QA_6.out hb7)
        clear hb7
        go_wp2_with fail
        refine (alive_any _).mono ?_
        rintro e w8 ⟨rfl, hb8⟩
        have HB8 := Aside0.mk (below_then HB7.out HB7.out.size hb8)
        have HR_8 := Aside0.mk (Kd.C_below HR_7.out hb8)
        have HD_8 := Aside0.mk (Kd.C_below HD_7.out hb8)
        have QA_8 := Aside0.mk (Kd.C_below QA_7.out hb8)
        clear hb8
        go_wp2_with fail
        go_ret
        exact ⟨rfl, HB8.out⟩
    · simp only [if_neg he] at HI HI' HI2
      unfold listF errF at HQ
      unfold listF at hl1
      simp only [if_neg he] at HQ hl1
      clear HH HI2
      have e0 : (ofE n l != 0) = true := bne_iff_ne.2 he
      clear he
      generalize ofE n l = er at *
      have e2 : (er == er) = true := by simp
      have e3 : (er != er) = false := by simp
      go_enter Try.func11, Try.ntmps11
      go_wp2_with fail
      refine (HF.out).mono ?_
      rintro e w1 ⟨rfl, hb1⟩
      have HB1 := Aside0.mk (hb1)
      have HR_1 := Aside0.mk (Kd.C_below HR.out hb1)
      have HD_1 := Aside0.mk (Kd.C_below HD.out hb1)
      clear hb1
      go_wp2_with fail
      refine (HI.out _ HR_1.out HD_1.out).mono ?_
      rintro e w2 ⟨rfl, hb2⟩
      have HB2 := Aside0.mk (below_then HB1.out HB1.out.size hb2)
      have HR_2 := Aside0.mk (Kd.C_below HR_1.out hb2)
      have HD_2 := Aside0.mk (Kd.C_below HD_1.out hb2)
      clear hb2
      go_wp2_with fail
      refine (HI'.out _ HR_2.out HD_2.out).mono ?_
      rintro e w3 ⟨rfl, hb3⟩
      have HB3 := Aside0.mk (below_then HB2.out HB2.out.size hb3)
      have HR_3 := Aside0.mk (Kd.C_below HR_2.out hb3)
      have HD_3 := Aside0.mk (Kd.C_below HD_2.out hb3)
      clear hb3
      go_wp2_with fail
      refine (HQ.out _ HR_3.out).mono ?_
      rintro e w4 ⟨A4, c4, rfl, hc4, hC4, hb4⟩
      have HB4 := Aside0.mk (below_then HB3.out HB3.out.size hb4)
      have HR_4 := Aside0.mk (Kd.C_below HR_3.out hb4)
      have HD_4 := Aside0.mk (Kd.C_below HD_3.out hb4)
      have QA_4 := Aside0.mk (hC4)
      clear hb4
      clear hC4
      go_wp2_with fail
      refine (HQ.out _ HR_4.out).mono ?_
      rintro e w5 ⟨A5, c5, rfl, hc5, hC5, hb5⟩
      have HB5 := Aside0.mk (below_then HB4.out HB4.out.size hb5)
      have HR_5 := Aside0.mk (Kd.C_below HR_4.out hb5)
      have HD_5 := Aside0.mk (Kd.C_below HD_4.out hb5)
      have QA_5 := Aside0.mk (Kd.C_below QA_4.out hb5)
      have QB_5 := Aside0.mk (hC5)
      clear hb5
      clear hC5
      go_wp2_with fail
      refine (same_out A5 A4 c5 c4 _ hl1 QA_5.out hc4 QB_5.out hc5).mono ?_
      rintro e w6 ⟨rfl, hb6⟩
      have HB6 := Aside0.mk (below_then HB5.out HB5.out.size hb6)
      have HR_6 := Aside0.mk (Kd.C_below HR_5.out hb6)
      have HD_6 := Aside0.mk (Kd.C_below HD_5.out hb6)
      have QA_6 := Aside0.mk (Kd.C_below QA_5.out hb6)
      have QB_6 := Aside0.mk (Kd.C_below QB_5.out hb6)
      clear hb6
      go_wp2_with fail
      refine (alive_any _).mono ?_
      rintro e w7 ⟨rfl, hb7⟩
      have HB7 := Aside0.mk (below_then HB6.out HB6.out.size hb7)
      have HR_7 := Aside0.mk (Kd.C_below HR_6.out hb7)
      have HD_7 := Aside0.mk (Kd.C_below HD_6.out hb7)
      have QA_7 := Aside0.mk (Kd.C_below QA_6.out hb7)
      clear hb7
      go_wp2_with fail
      go_ret
      exact ⟨rfl, HB7.out⟩
end Go.Proofs.Ytmobefgnkiboaaa.Im

namespace Go.Proofs.Ytmobefgnkiboaaa.Im
open Go.RowKit Go.ChangeShapes Go.WideShapes Go.Proofs.YtmobefgnkiboaaaW.PrintWords Go.Proofs.YtmobefgnkiboaaaW.PrintLast Go.Proofs.YtmobefgnkiboaaaW.PrintMore
theorem open_arcs {H : Type} {enc : TypeId × Value → H} {w : World} {base : Nat} {spare : Nat → Bool} {held : Bool} {fuel : Nat} {a : Option Addr} {len cap : Nat} {x : DataW H × List MemPlace}
    (h : DataW.trod enc Try.prog w base spare held fuel 22 [.slice a len cap] = some x) :
    ∃ l : List S43, len = l.length ∧ Kd.C k43 w a l.length l ∧ l.length ≤ cap := by
  rcases Go.Deep.open_slice_pairs Try.underlying22 Try.underlying43 (by kernel_rfl) rfl rfl (by kernel_rfl) (by kernel_rfl) h with ⟨hcs, _⟩ | ⟨b, len', cap', m, n, V0, V1, D0, D1, P0, P1, hcs, hb, hl, hm, hmm, hx, hi⟩
  · simp at hcs
    obtain ⟨rfl, rfl, rfl⟩ := hcs
    exact ⟨[], rfl, ⟨rfl, by simp, fun h => absurd h (by simp)⟩, Nat.le_refl _⟩
  · simp at hcs
    obtain ⟨rfl, rfl, rfl⟩ := hcs
    have hlm : len ≤ m := by rw [hmm]; split <;> omega
    have hint : ∀ i, i < m → ∃ p q : Int, V0 i = .int .i64 p ∧ V1 i = .int .i64 q := fun i him => by
      obtain ⟨_, _, t0, t1⟩ := hi i him
      obtain ⟨p, hp, _⟩ := DataW.trod_int Try.underlying3 t0
      obtain ⟨q, hq, _⟩ := DataW.trod_int Try.underlying3 t1
      exact ⟨p, q, by simpa using hp, by simpa using hq⟩
    let g : Nat → S43 := fun i => ⟨match V0 i with | .int _ p => p | _ => 0, match V1 i with | .int _ q => q | _ => 0⟩
    have hg0 : ∀ i, i < m → V0 i = .int .i64 (g i).f0 := fun i him => by
      obtain ⟨p, q, hp, hq⟩ := hint i him
      simp [g, hp]
    have hg1 : ∀ i, i < m → V1 i = .int .i64 (g i).f1 := fun i him => by
      obtain ⟨p, q, hp, hq⟩ := hint i him
      simp [g, hq]
    refine ⟨(List.range len).map g, by simp, ?_, by simpa using hl⟩
    have hll : ((List.range len).map g).length = len := by simp
    rw [hll]
    refine ⟨hll, by unfold maxLen at hm; omega, fun _ => ⟨b, rfl, fun j p hp => ?_⟩⟩
    have hj : j < len := by
      rcases Nat.lt_or_ge j len with h' | h'
      · exact h'
      · rw [List.getElem?_eq_none (by rw [hll]; exact h')] at hp; cases hp
    have hp' : p = g j := by
      rw [List.getElem?_map, List.getElem?_range hj] at hp
      simpa using hp.symm
    subst hp'
    refine ⟨_, rfl, k43_mk w (g j), fun i u hu => ?_⟩
    obtain ⟨c0, c1, _, _⟩ := hi j (by omega)
    rw [hg0 j (by omega)] at c0
    rw [hg1 j (by omega)] at c1
    match i, hu with
    | 0, hu => simp at hu; subst hu; exact c0
    | 1, hu => simp at hu; subst hu; exact c1
theorem open_nums {H : Type} {enc : TypeId × Value → H} {w : World} {base : Nat} {spare : Nat → Bool} {held : Bool} {fuel : Nat} {a : Option Addr} {len cap : Nat} {x : DataW H × List MemPlace}
    (h : DataW.trod enc Try.prog w base spare held fuel 25 [.slice a len cap] = some x) :
    ∃ l : List Int, len = l.length ∧ Kd.C (Kd.int .i64) w a l.length l ∧ l.length ≤ cap := by
  rcases open_ints Try.underlying25 Try.underlying3 (by kernel_rfl) h with ⟨hcs, _⟩ | ⟨b, len', cap', zs, hcs, hb, hl, hm, hz, hx, hcell, hwz⟩
  · simp at hcs
    obtain ⟨rfl, rfl, rfl⟩ := hcs
    exact ⟨[], rfl, ⟨rfl, by simp, fun h => absurd h (by simp)⟩, Nat.le_refl _⟩
  · simp at hcs
    obtain ⟨rfl, rfl, rfl⟩ := hcs
    have hlz : len ≤ zs.length := by rw [hz]; split <;> omega
    have hll : (zs.take len).length = len := by rw [List.length_take]; omega
    refine ⟨zs.take len, hll.symm, ?_, by rw [hll]; exact hl⟩
    rw [hll]
    refine ⟨hll, by unfold maxLen at hm; omega, fun _ => ⟨b, rfl, fun j p hp => ?_⟩⟩
    have hj : j < len := by
      rcases Nat.lt_or_ge j len with h' | h'
      · exact h'
      · rw [List.getElem?_eq_none (by rw [hll]; exact h')] at hp; cases hp
    have hp' : p = zs.getD j 0 := by
      rw [List.getElem?_take_of_lt hj] at hp
      rw [List.getD_eq_getElem?_getD, hp]; rfl
    subst hp'
    refine ⟨_, rfl, rfl, fun i u hu => ?_⟩
    match i, hu with
    | 0, hu =>
      simp at hu; subst hu
      have := hcell j (by omega)
      rw [Nat.add_zero, show j * (Kd.int IntKind.i64).sz = j from Nat.mul_one j]
      exact this
end Go.Proofs.Ytmobefgnkiboaaa.Im

