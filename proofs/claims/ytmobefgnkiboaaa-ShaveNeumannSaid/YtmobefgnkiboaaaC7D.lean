/- Further parts of the same walk: contracts of the functions that the law reaches, each under the conditions that it states. -/
import Derived.Test.YtmobefgnkiboaaaC7C
namespace Go.Proofs.Ytmobefgnkiboaaa.Im
open Go.RowKit Go.Proofs.YtmobefgnkiboaaaW.PrintWords Go.Proofs.YtmobefgnkiboaaaW.PrintLast Go.Proofs.YtmobefgnkiboaaaW.PrintMore
set_option linter.unusedVariables false
/-- The formula of a person by those to whom an arc leads. -/
def letB (j : Nat) : UInt8 := UInt8.ofNat (97 + j)
def frmL : List Nat → List UInt8
  | [] => [49]
  | [j] => [33, letB j]
  | j :: k :: rest => [40, 33, letB j, 38] ++ frmL (k :: rest) ++ [41]
theorem frmL_len : ∀ l, (frmL l).length ≤ 6 * l.length + 1
  | [] => by simp [frmL]
  | [j] => by simp [frmL]
  | j :: k :: rest => by
    have := frmL_len (k :: rest)
    simp only [frmL, List.length_append, List.length_cons, List.length_nil] at *
    omega
def bytesA (l : List UInt8) : ByteArray := ⟨l.toArray⟩
theorem bytesA_size (l : List UInt8) : (bytesA l).size = l.length := by simp [bytesA, ByteArray.size]
theorem bytesA_append (a b : List UInt8) : bytesA a ++ bytesA b = bytesA (a ++ b) := by
  apply ByteArray.ext
  simp [bytesA, ByteArray.data_append]
theorem joinF (a b : List UInt8) : (Lib.join ([bytesA [40], bytesA a, bytesA [38], bytesA b, bytesA [41]].map (·.data.toList)) (bytesA []).data.toList) = [40] ++ a ++ [38] ++ b ++ [41] := by
  simp [Lib.join, bytesA, List.intercalate, List.intersperse]
theorem frm_step (M : List Nat) (q j : Nat) (h : M.drop q = j :: M.drop (q + 1)) (hq : q + 1 < M.length) : frmL (M.drop q) = [40] ++ [33, letB j] ++ [38] ++ frmL (M.drop (q + 1)) ++ [41] := by
  rw [h]
  have h2 : M.drop (q + 1) = M[q + 1] :: M.drop (q + 1 + 1) := List.drop_eq_getElem_cons hq
  rw [h2]
  simp [frmL]
theorem frm_last (M : List Nat) (q j : Nat) (h : M.drop q = j :: M.drop (q + 1)) (hq : q + 1 = M.length) : frmL (M.drop q) = [33, letB j] := by
  rw [h, hq, List.drop_length]; rfl
def sentB (o : List Nat) (i : Nat) : ByteArray := bytesA (frmL (memL (o.getD i 0)))
def sentAll (n : Nat) (o : List Nat) : Option (List ByteArray) := if (List.range n).all (fun i => decide ((sentB o i).size ≤ 40)) then some ((List.range n).map (sentB o)) else none
def SentR (w : World) (r : Option (List ByteArray)) (e : Ending) (w' : World) : Prop :=
  match r with
  | some l => ∃ v, e = .returned (.tuple #[v, .int .i64 0]) ∧ Kd.R Kd.string 9 w' w.heap.size (fun _ => True) v l ∧ Below w.heap.size w w'
  | none => e = .returned (.tuple #[.slice none 0 0, .int .i64 8]) ∧ Below w.heap.size w w'
def SentPost (n : Int) (l : List S43) (w : World) (e : Ending) (w' : World) : Prop :=
  if ofE n l = 0 then SentR w (if 10 < n then none else sentAll n.toNat (townO l)) e w'
  else e = .returned (.tuple #[.slice none 0 0, .int .i64 (ofE n l)]) ∧ Below w.heap.size w w'
theorem run_rune0 (w : World) : (convert 21 9 (.int .i32 97)).run Try.prog w = .ok (.string (bytesA [letB 0])) w := by kernel_rfl
theorem run_rune1 (w : World) : (convert 21 9 (.int .i32 98)).run Try.prog w = .ok (.string (bytesA [letB 1])) w := by kernel_rfl
theorem run_rune2 (w : World) : (convert 21 9 (.int .i32 99)).run Try.prog w = .ok (.string (bytesA [letB 2])) w := by kernel_rfl
theorem run_rune3 (w : World) : (convert 21 9 (.int .i32 100)).run Try.prog w = .ok (.string (bytesA [letB 3])) w := by kernel_rfl
theorem run_rune4 (w : World) : (convert 21 9 (.int .i32 101)).run Try.prog w = .ok (.string (bytesA [letB 4])) w := by kernel_rfl
theorem run_rune5 (w : World) : (convert 21 9 (.int .i32 102)).run Try.prog w = .ok (.string (bytesA [letB 5])) w := by kernel_rfl
theorem run_rune6 (w : World) : (convert 21 9 (.int .i32 103)).run Try.prog w = .ok (.string (bytesA [letB 6])) w := by kernel_rfl
theorem run_rune7 (w : World) : (convert 21 9 (.int .i32 104)).run Try.prog w = .ok (.string (bytesA [letB 7])) w := by kernel_rfl
theorem run_rune8 (w : World) : (convert 21 9 (.int .i32 105)).run Try.prog w = .ok (.string (bytesA [letB 8])) w := by kernel_rfl
theorem run_rune9 (w : World) : (convert 21 9 (.int .i32 106)).run Try.prog w = .ok (.string (bytesA [letB 9])) w := by kernel_rfl
theorem run_rune10 (w : World) : (convert 21 9 (.int .i32 107)).run Try.prog w = .ok (.string (bytesA [letB 10])) w := by kernel_rfl
theorem run_rune11 (w : World) : (convert 21 9 (.int .i32 108)).run Try.prog w = .ok (.string (bytesA [letB 11])) w := by kernel_rfl
theorem run_rune (j : Nat) (hj : j < 12) (w : World) : (convert 21 9 (.int .i32 (97 + (j : Int)))).run Try.prog w = .ok (.string (bytesA [letB j])) w := by
  rcases j with _|_|_|_|_|_|_|_|_|_|_|_|j
  · exact run_rune0 w
  · exact run_rune1 w
  · exact run_rune2 w
  · exact run_rune3 w
  · exact run_rune4 w
  · exact run_rune5 w
  · exact run_rune6 w
  · exact run_rune7 w
  · exact run_rune8 w
  · exact run_rune9 w
  · exact run_rune10 w
  · exact run_rune11 w
  · omega
theorem l_rune {ops : Array Oper} {Q : Exit → Act → World → Prop} {rest : List Oper} {o : Oper} {a : Act} {w : World} (hgd : o.guard = none) {x : Operand} (ho : o.op = .convert 21 9 x) (j : Nat) (hj : j < 12) (r : Int) (hx : a.eval x = .int .i32 r) (hr : r = 97 + (j : Int))
    (h : wpList Try.prog ops Q rest (a.put o.dst (.string (bytesA [letB j]))) w) : wpList Try.prog ops Q (o :: rest) a w := by
  subst hr
  refine wpList_plain hgd fun K hK => ?_
  have hl := run_rune j hj w
  have e : (execOp a.eval o).run Try.prog w = .ok (.value (.string (bytesA [letB j]))) w := by
    unfold execOp
    simp [ho, hx, hl, Result.andThen]
  unfold Oper.wp
  rw [e]
  exact hK _ _ h
set_option maxHeartbeats 3200000 in
set_option maxRecDepth 100000 in
theorem Sentences_any (n : Int) (A : Option Addr) (c : Nat) (l : List S43) (w : World) (hr : Kd.C k43 w A l.length l) (hc : l.length ≤ c) :
    Calls Try.prog 19 #[.int .i64 n, .slice A l.length c] w (SentPost n l w) := by
  have HO := Aside0.mk (of_A n A c l w hr hc)
  have HZ := Aside0.mk (ofA_size n l)
  have H1 := Aside0.mk (ofA_one n l)
  clear hr hc
  by_cases he : ofE n l = 0
  · have ok := okt_of he
    have hA : ofA n l = tnN n.toNat (townO l) := by rw [ofA, if_pos he]
    have hK : SentPost n l w = SentR w (if 10 < n then none else sentAll n.toNat (townO l)) := by funext e w'; simp [SentPost, he]
    have hnn := (ofE_ok he).1
    rw [hK]
    rw [hA] at HO HZ H1
    rw [he] at HO
    clear he hA hK
    generalize townO l = o at *
    obtain ⟨m, rfl⟩ : ∃ m : Nat, n = m := ⟨n.toNat, by omega⟩
    rw [Int.toNat_natCast] at *
    have HK := Aside0.mk ok
    have n12 := ok.n12
    clear ok hnn
    by_cases h10 : (10 : Int) < m
    · rw [if_pos h10]
      go_enter Try.func19, Try.ntmps19
      go_wp2_with fail
      refine HO.out.mono ?_
      rintro e w1 ⟨rfl, hb⟩
      have HB := Aside0.mk hb
      clear hb HO
      go_wp2_with (refine wpList_store_row rfl 50 _ _ rfl w1.heap.size (tnN m o) rfl rfl 50 (tnN 0 zero12) (heap_alloc_new w1 _) (by rw [info50, HZ.out]) (by rw [HZ.out]; rfl) H1.out ?_; rw [World.setRow_alloc_new])
      go_ret2
      exact ⟨rfl, below_alloc HB.out _⟩
    · rw [if_neg h10]
      have hd10 : decide ((10 : Int) < m) = false := decide_eq_false h10
      obtain ⟨R, hR⟩ : ∃ R, sentAll m o = R := ⟨_, rfl⟩
      rw [hR]
      have HR := Aside0.mk hR
      clear hR
      go_enter Try.func19, Try.ntmps19
      go_wp2_with fail
      refine HO.out.mono ?_
      rintro e w1 ⟨rfl, hb⟩
      have HB := Aside0.mk hb
      clear hb HO
      have HT : Aside0 (TnN (w1.alloc (.cells (tnN m o) 50)) w1.heap.size m o) := ⟨Blk.new _ _ _⟩
      have HB1 := Aside0.mk (below_alloc HB.out (.cells (tnN m o) 50))
      go_wp2_with (refine wpList_store_row rfl 50 _ _ rfl w1.heap.size (tnN m o) rfl rfl 50 (tnN 0 zero12) (heap_alloc_new w1 _) (by rw [info50, HZ.out]) (by rw [HZ.out]; rfl) H1.out ?_; rw [World.setRow_alloc_new])
      generalize w1.alloc (.cells (tnN m o) 50) = W0 at *
      generalize w1.heap.size = g6 at *
      clear HB
      have HW0 := HB1.out.size
      go_loopw [8, 28] (fun v8 v wr => ∃ i : Nat, i ≤ m ∧ v = .int .i64 (i : Int) ∧ Aside0 (Kd.R Kd.string 9 wr w.heap.size (fun _ => True) v8 ((List.range i).map (sentB o))) ∧ Aside0 (∀ j, j < i → (sentB o j).size ≤ 40) ∧ Aside0 (Below w.heap.size w wr) ∧ Aside0 (TnN wr g6 m o)) (fun _ v _ => m - (intOf v).toNat)
      case atStart => exact ⟨0, Nat.zero_le _, rfl, ⟨Kd.R_nil _ _ _ _ _⟩, ⟨fun j hj => absurd hj (by omega)⟩, HB1, HT⟩
      case round =>
        obtain ⟨i, hi, rfl, HR8, HS, HBr, HTr⟩ := hrel
        by_cases him : i < m
        · have co := TnN.cellS HTr.out i (by rw [HK.out.len]; omega)
          rw [Nat.add_comm] at co
          have hnx : o.getD i 0 < 4096 := Nat.lt_of_lt_of_le (HK.out.lt _) (Nat.pow_le_pow_right (by decide) HK.out.n12 : 2 ^ m ≤ 2 ^ 12)
          have hse : sentB o i = bytesA (frmL (memL (o.getD i 0))) := rfl
          generalize o.getD i 0 = nx at *
          have hml := memL_len nx
          have HML := Aside0.mk (fun x (hx : x ∈ memL nx) => memL_lt hx)
          have HM := Aside0.mk (fun w => members_any nx w hnx)
          rw [show memL nx = mem12 nx 0 from rfl] at *
          generalize mem12 nx 0 = M at *
          have hlm : (ints M).length = M.length := ints_length M
          have i0 : (0 : Int) ≤ i := by omega
          have i1 : (i : Int) < 12 := by omega
          have HSE := Aside0.mk hse
          clear hse
          go_wp2_with fail
          refine (HM.out _).mono ?_
          rintro e w3 ⟨v3, rfl, hr3, hb3⟩
          obtain ⟨A3, c3, rfl, hl3, hC3⟩ := Kd.R_reads hr3
          have HB3 := Aside0.mk (below_then HBr.out HBr.out.size hb3)
          have HT3 := Aside0.mk (Blk.later HTr.out hb3)
          have HR3 := Aside0.mk (Kd.R_below HR8.out hb3)
          have HC3 := Aside0.mk hC3
          rw [hlm] at HC3 hl3 ⊢
          clear hr3 hb3 hC3 HM co
          go_wp2_with fail
          go_loopw [11, 12] (fun v11 v wr => ∃ k : Nat, k ≤ M.length ∧ v = .int .i64 ((k : Int) - 1) ∧ v11 = .string (bytesA (frmL (M.drop k))) ∧ Aside0 (Below w3.heap.size w3 wr)) (fun _ v _ => (intOf v + 1).toNat)
          case atStart => exact ⟨M.length, Nat.le_refl _, rfl, by rw [List.drop_length]; rfl, ⟨Below.refl _ _⟩⟩
          case round =>
            obtain ⟨k, hk, rfl, rfl, HBx⟩ := hrel
            by_cases hk0 : 1 ≤ k
            · obtain ⟨q, rfl⟩ : ∃ q, k = q + 1 := ⟨k - 1, by omega⟩
              rw [show (((q + 1 : Nat) : Int) - 1) = (q : Int) by omega]
              obtain ⟨ad, rfl, cx⟩ := Kd.at_int HC3.out (q : Int) (by omega) (by omega)
              replace cx := (HBx.out.cell (World.block_lt_of_cell? w3 _ cx)).trans cx
              rw [rd_ints, Int.toNat_natCast] at cx
              have hje : M.getD q 0 = M[q] := by rw [List.getD_eq_getElem?_getD, List.getElem?_eq_getElem (by omega)]; rfl
              have hj12 : M[q] < 12 := HML.out _ (List.getElem_mem (by omega))
              rw [hje] at cx
              have hdr : M.drop q = M[q] :: M.drop (q + 1) := List.drop_eq_getElem_cons (by omega)
              have HDR := Aside0.mk hdr
              generalize M[q] = j at *
              clear hdr hje
              have hsl : (frmL (M.drop (q + 1))).length ≤ 73 := by have := frmL_len (M.drop (q + 1)); rw [List.length_drop] at this; omega
              by_cases hkm : q + 1 = M.length
              · have neq : ((q : Int) == ((M.length : Int) - 1)) = true := beq_iff_eq.2 (by omega)
                have hf := frm_last M q j HDR.out hkm
                have HF := Aside0.mk hf
                have hown : bytesA [33] ++ bytesA [letB j] = bytesA [33, letB j] := bytesA_append _ _
                have HOW := Aside0.mk hown
                clear hf hown
                generalize frmL (M.drop (q + 1)) = so at *
                go_wp2_with (refine l_rune rfl rfl j hj12 _ rfl rfl ?_)
                go_roundw
                case rel => exact ⟨q, by omega, rfl, by rw [HF.out]; exact congrArg Value.string HOW.out, HBx⟩
                case measure => simp [intOf]; try omega
              · have neq : ((q : Int) == ((M.length : Int) - 1)) = false := beq_eq_false_iff_ne.2 (by omega)
                have hf := frm_step M q j HDR.out (by omega)
                have HF := Aside0.mk hf
                clear hf
                generalize frmL (M.drop (q + 1)) = so at *
                have HOW := Aside0.mk (show bytesA [33] ++ bytesA [letB j] = bytesA [33, letB j] from bytesA_append [33] [letB j])
                have HJN := Aside0.mk (joinF [33, letB j] so)
                go_wp2_with (refine l_rune rfl rfl j hj12 _ rfl rfl ?_)
                have hbw : Below wr.heap.size wr (wr.alloc (.cells #[.string (bytesA [40]), .string (bytesA [33, letB j]), .string (bytesA [38]), .string (bytesA so), .string (bytesA [41])] 9)) := below_alloc (Below.refl _ _) _
                have hJ := Try.strings_Join wr.heap.size 0 5 [bytesA [40], bytesA [33, letB j], bytesA [38], bytesA so, bytesA [41]] (bytesA []) (wr.alloc (.cells #[.string (bytesA [40]), .string (bytesA [33, letB j]), .string (bytesA [38]), .string (bytesA so), .string (bytesA [41])] 9))
                  (fun jj x hx => by
                    rw [Nat.zero_add, (Blk.new wr 9 _).cell jj]
                    match jj, hx with
                    | 0, hx => simp at hx; subst hx; rfl
                    | 1, hx => simp at hx; subst hx; rfl
                    | 2, hx => simp at hx; subst hx; rfl
                    | 3, hx => simp at hx; subst hx; rfl
                    | 4, hx => simp at hx; subst hx; rfl
                    | (n + 5), hx => simp at hx)
                  (by simp) (by simp) (by simp) (by rw [HJN.out]; simp; omega)
                rw [HJN.out, ← HF.out, ← HOW.out] at hJ
                refine hJ.mono ?_
                rintro e w5 ⟨rfl, hb5⟩
                rw [HOW.out] at hb5
                have HB5 := Aside0.mk (below_then HBx.out HBx.out.size (below_then hbw hbw.size hb5))
                clear hbw hJ hb5
                go_wp2_with fail
                go_roundw
                case rel => exact ⟨q, by omega, rfl, rfl, HB5⟩
                case measure => simp [intOf]; try omega
            · obtain rfl : k = 0 := by omega
              rw [List.drop_zero]
              have kz : ¬ (0 : Int) ≤ ((0 : Nat) : Int) - 1 := by omega
              have hfl := frmL_len M
              have hse := HSE.out
              have HS1 : Aside0 ((sentB o i).size = (frmL M).length) := ⟨by rw [hse, bytesA_size]⟩
              generalize frmL M = fM at *
              have hsz : ((bytesA fM).size : Int) = (fM.length : Int) := by rw [bytesA_size]
              have HRx := Aside0.mk (Kd.R_below HR3.out HBx.out)
              have HTx := Aside0.mk (Blk.later HT3.out HBx.out)
              have HBxx := Aside0.mk (below_then HB3.out HB3.out.size HBx.out)
              have HSE2 := Aside0.mk hse
              generalize hsb : bytesA fM = sb at *
              have hs2 : sb.size = fM.length := by rw [← hsb, bytesA_size]
              clear hsb hsz hse
              by_cases h40 : fM.length ≤ 40
              · have h40' : ¬ (40 < (sb.size : Int)) := by omega
                have HS2 : Aside0 (∀ j, j < i + 1 → (sentB o j).size ≤ 40) := ⟨fun j hj => by
                  rcases Nat.lt_or_ge j i with h | h
                  · exact HS.out j h
                  · obtain rfl : j = i := by omega
                    rw [HS1.out]; exact h40⟩
                have HRG : Aside0 ((List.range (i + 1)).map (sentB o) = (List.range i).map (sentB o) ++ [sb]) := ⟨by rw [List.range_succ, List.map_append, ← HSE2.out]; rfl⟩
                have hLl : ((List.range i).map (sentB o)).length = i := by simp
                generalize (List.range i).map (sentB o) = L at *
                have HL := Aside0.mk hLl
                clear hLl hs2
                go_wp2_with (first | ((with_reducible refine gate_builtin (b := .append) (xs := #[.tmp 64, .tmp 66]) rfl ?_); at_builtin; refine Kd.R_append Kd.string (w0 := w) w.heap.size rfl (.tmp 64) (.tmp 66) 31 9 (.string ⟨#[]⟩) 16 rfl Try.underlying31 info9 rfl (by decide) (by omega) u8 L sb [.string sb] (fun _ => True) (fun _ => False) rfl rfl rfl (fun _ hk => hk.elim) (fun _ _ => trivial) HRx.out HBxx.out HBxx.out.size (by have := HL.out; omega) ?_; intro v9 w9 ho hb hg hat; have HO9 := Aside0.mk ho; have HB9 := Aside0.mk hb; have HT9 := Aside0.mk (Blk.gb HTx.out hg (Kd.R_ne HRx.out HTx.out (by decide))); clear ho hb hg hat))
                go_roundw
                case rel => exact ⟨i + 1, by omega, by go_num, ⟨by rw [HRG.out]; exact HO9.out⟩, HS2, HB9, HT9⟩
                case measure => simp [intOf]; try omega
              · have h40' : 40 < (sb.size : Int) := by omega
                have HF := Aside0.mk (show R = none by
                  rw [← HR.out, sentAll, if_neg]
                  rw [List.all_eq_true]
                  intro h
                  have := h i (List.mem_range.2 him)
                  rw [decide_eq_true_eq, HS1.out] at this
                  exact h40 this)
                clear hs2
                go_wp2_with fail
                go_ret2
                rw [HF.out]
                exact ⟨rfl, HBxx.out⟩
        · obtain rfl : i = m := by omega
          have HF := Aside0.mk (show R = some ((List.range i).map (sentB o)) by
            rw [← HR.out, sentAll, if_pos]
            rw [List.all_eq_true]
            exact fun x hx => decide_eq_true (HS.out x (List.mem_range.1 hx)))
          go_wp2_with fail
          go_ret2
          rw [HF.out]
          exact ⟨_, rfl, HR8.out, HBr.out⟩
  · have hK : SentPost n l w = fun e w' => e = .returned (.tuple #[.slice none 0 0, .int .i64 (ofE n l)]) ∧ Below w.heap.size w w' := by funext e w'; simp [SentPost, he]
    rw [hK]
    have hb : (ofE n l != 0) = true := bne_iff_ne.2 he
    have hb' : (ofE n l == 0) = false := beq_eq_false_iff_ne.2 he
    clear hK he
    generalize ofE n l = er at *
    go_enter Try.func19, Try.ntmps19
    go_wp2_with fail
    refine HO.out.mono ?_
    rintro e w1 ⟨rfl, hb⟩
    have HB := Aside0.mk hb
    clear hb HO
    go_wp2_with (refine wpList_store_row rfl 50 _ _ rfl w1.heap.size (ofA n l) rfl rfl 50 (tnN 0 zero12) (heap_alloc_new w1 _) (by rw [info50, HZ.out]) (by rw [HZ.out]; rfl) H1.out ?_)
    go_ret2
    exact ⟨rfl, by rw [World.setRow_alloc_new]; exact below_alloc HB.out _⟩
end Go.Proofs.Ytmobefgnkiboaaa.Im
namespace Go.Proofs.Ytmobefgnkiboaaa.Im
open Go.RowKit Go.Proofs.YtmobefgnkiboaaaW.PrintWords Go.Proofs.YtmobefgnkiboaaaW.PrintLast Go.Proofs.YtmobefgnkiboaaaW.PrintMore
set_option linter.unusedVariables false
theorem run_slice2 (w : World) (A : Option Addr) (n c : Nat) (hn : 2 ≤ n) (hc : n ≤ c) :
    (Instr.sliceAt 22 (.slice A n c) none (some (.int .i64 2)) none).run Try.prog w = .ok (.slice A 2 c) w := by
  have hu : Try.prog.underlying 22 = some (.slice (Try.prog.elem 22)) := by rw [Try.underlying22]; rfl
  rw [run_sliceAt_slice w _ _ _ _ _ hu, run_slice_h w 22 A n c hu .i64 2 (by omega) (by omega)]
  have hs : (sizeOf (Try.prog.elem 22)).run Try.prog w = .ok 2 w := by kernel_rfl
  rw [hs]
  simp only [Result.andThen_ok, sliced]
  cases A with
  | none => simp
  | some b => simp [add_zero]
theorem l_slice2 {ops : Array Oper} {Q : Exit → Act → World → Prop} {rest : List Oper} {o : Oper} {a : Act} {w : World} (hgd : o.guard = none) {x : Operand} (ho : o.op = .slice 22 x none (some (.const (.int .i64 2))) none) (A : Option Addr) (n c : Nat) (hx : a.eval x = .slice A n c) (hn : 2 ≤ n) (hc : n ≤ c)
    (h : wpList Try.prog ops Q rest (a.put o.dst (.slice A 2 c)) w) : wpList Try.prog ops Q (o :: rest) a w := by
  refine wpList_plain hgd fun K hK => ?_
  have hl := run_slice2 w A n c hn hc
  have hy : a.eval (.const (.int .i64 2)) = .int .i64 2 := rfl
  have e : (execOp a.eval o).run Try.prog w = .ok (.value (.slice A 2 c)) w := by
    unfold execOp
    simp [ho, hx, Result.andThen]
    rw [hy, hl]
  unfold Oper.wp
  rw [e]
  exact hK _ _ h
def ring3 : List S43 := [⟨0, 1⟩, ⟨1, 2⟩, ⟨2, 0⟩]
def ring4 : List S43 := [⟨0, 1⟩, ⟨1, 2⟩, ⟨2, 3⟩, ⟨3, 0⟩]
def path3 : List S43 := [⟨0, 1⟩, ⟨1, 2⟩]
theorem ring3_f : pomadelaw02_ring.f 5 3 = some ring3 := by kernel_rfl
theorem ring4_f : pomadelaw02_ring.f 6 4 = some ring4 := by kernel_rfl
theorem k3_E : ofE 3 ring3 = 0 := by decide
theorem k4_E : ofE 4 ring4 = 0 := by decide
theorem p3_E : ofE 3 path3 = 0 := by decide
theorem k3_T : townO ring3 = [2, 4, 1, 0, 0, 0, 0, 0, 0, 0, 0, 0] := by decide
theorem k4_T : townO ring4 = [2, 4, 8, 1, 0, 0, 0, 0, 0, 0, 0, 0] := by decide
theorem p3_T : townO path3 = [2, 4, 0, 0, 0, 0, 0, 0, 0, 0, 0, 0] := by decide
theorem k3_none : firstS (fun s => kerB (3 : Int).toNat (townO ring3) s (2 ^ (3 : Int).toNat - 1)) (3 : Int).toNat = none := by rw [k3_T]; decide
theorem k3_odd : oddS (3 : Int).toNat (townO ring3) = some [0, 1, 2] := by rw [k3_T]; decide
theorem k4_many : manyK (4 : Int).toNat (townO ring4) (2 ^ (4 : Int).toNat) = 2 := by rw [k4_T]; decide
theorem p3_rank : rankF (townO path3) (3 : Int).toNat [] = some [0, 1, 0] := by rw [p3_T]; decide
theorem p3_sent : sentAll (3 : Int).toNat (townO path3) = some [⟨#[33, 98]⟩, ⟨#[33, 99]⟩, ⟨#[49]⟩] := by rw [p3_T]; rfl
theorem ring_any (k : Nat) (n : Int) (r : List S43) (w : World) (h : pomadelaw02_ring.f k n = some r) :
    Calls Try.prog 44 #[.int .i64 n] w fun e w' => ∃ (A : Option Addr) (c : Nat), e = .returned (.slice A r.length c) ∧ r.length ≤ c ∧ Kd.C k43 w' A r.length r ∧ Below w.heap.size w w' :=
  (pomadelaw02_ring.calls k n r w h).mono fun e w' ⟨v, h1, h2, h3⟩ => by
    obtain ⟨A, c, rfl, hl, hC⟩ := Kd.R_reads h2
    exact ⟨A, c, h1, hl, hC, h3⟩
theorem Kernel_ring (A : Option Addr) (c : Nat) (w : World) (hr : Kd.C k43 w A 3 ring3) (hc : 3 ≤ c) :
    Calls Try.prog 23 #[.int .i64 3, .slice A 3 c] w fun e w' => e = .returned (.tuple #[.slice none 0 0, .int .i64 10]) ∧ Below w.heap.size w w' :=
  (Kernel_any 3 A c ring3 w hr hc).mono fun e w' h => by
    unfold KernelPost at h
    rw [if_pos k3_E, k3_none] at h
    exact h
theorem Odd_ring (A : Option Addr) (c : Nat) (w : World) (hr : Kd.C k43 w A 3 ring3) (hc : 3 ≤ c) :
    Calls Try.prog 28 #[.int .i64 3, .slice A 3 c] w fun e w' => ∃ A c, e = .returned (.tuple #[.slice (some A) 3 c, .int .i64 0]) ∧ 3 ≤ c ∧ Kd.C (Kd.int .i64) w' (some A) 3 [0, 1, 2] ∧ Below w.heap.size w w' :=
  (Odd_any 3 A c ring3 w hr hc).mono fun e w' h => by
    unfold OddPost at h
    rw [if_pos k3_E, k3_odd] at h
    exact h
theorem Kernels_ring (A : Option Addr) (c : Nat) (w : World) (hr : Kd.C k43 w A 4 ring4) (hc : 4 ≤ c) :
    Calls Try.prog 24 #[.int .i64 4, .slice A 4 c] w fun e w' => e = .returned (.tuple #[.int .i64 2, .int .i64 0]) ∧ Below w.heap.size w w' :=
  (Kernels_any 4 A c ring4 w hr hc).mono fun e w' h => by
    unfold KernelsPost at h
    rw [if_pos k4_E, k4_many, k4_E] at h
    exact h
theorem Ranks_path (A : Option Addr) (c : Nat) (w : World) (hr : Kd.C k43 w A 2 path3) (hc : 2 ≤ c) :
    Calls Try.prog 16 #[.int .i64 3, .slice A 2 c] w fun e w' => ∃ A c, e = .returned (.tuple #[.slice (some A) 3 c, .int .i64 0]) ∧ 3 ≤ c ∧ Kd.C (Kd.int .i64) w' (some A) 3 [0, 1, 0] ∧ Below w.heap.size w w' :=
  (Ranks_any 3 A c path3 w hr hc).mono fun e w' h => by
    unfold RanksPost at h
    rw [if_pos p3_E, p3_rank] at h
    exact h
theorem Sent_path (A : Option Addr) (c : Nat) (w : World) (hr : Kd.C k43 w A 2 path3) (hc : 2 ≤ c) :
    Calls Try.prog 19 #[.int .i64 3, .slice A 2 c] w fun e w' => ∃ A c, e = .returned (.tuple #[.slice A 3 c, .int .i64 0]) ∧ 3 ≤ c ∧ Kd.C Kd.string w' A 3 [⟨#[33, 98]⟩, ⟨#[33, 99]⟩, ⟨#[49]⟩] ∧ Below w.heap.size w w' :=
  (Sentences_any 3 A c path3 w hr hc).mono fun e w' h => by
    unfold SentPost at h
    rw [if_pos p3_E, if_neg (by omega), p3_sent] at h
    obtain ⟨v, h1, h2, h3⟩ := h
    obtain ⟨A, c, rfl, hl, hC⟩ := Kd.R_reads h2
    exact ⟨A, c, h1, hl, hC, h3⟩
theorem same3 (a b c : Int) (A B : Option Addr) (c0 c1 : Nat) (w : World) (h0 : Kd.C (Kd.int .i64) w A 3 [a, b, c]) (h1 : Kd.C (Kd.int .i64) w B 3 [a, b, c]) (hc0 : 3 ≤ c0) (hc1 : 3 ≤ c1) :
    Calls Try.prog 18 #[.slice A 3 c0, .slice B 3 c1] w fun e w' => e = .returned (.bool true) ∧ Drawn0 w w' :=
  pomadelaw02_same.calls 6 A c0 [a, b, c] B c1 [a, b, c] true w h0 hc0 h1 hc1 (by
    have e1 : wrap64 1 = 1 := by unfold wrap64; omega
    have e2 : wrap64 2 = 2 := by unfold wrap64; omega
    have e3 : wrap64 3 = 3 := by unfold wrap64; omega
    simp [pomadelaw02_same.f, pomadelaw02_same.l0, e1, e2, e3, rd])
set_option maxHeartbeats 3200000 in
set_option maxRecDepth 100000 in
theorem alive_any (w : World) : Calls Try.prog 15 #[] w fun e w' => e = .returned (.bool true) ∧ Below w.heap.size w w' := by
  go_enter Try.func15, Try.ntmps15
  go_wp2_with fail
  refine (ring_any 5 3 ring3 _ ring3_f).mono ?_
  rintro e w1 ⟨A1, c1, rfl, hc1, hC1, hb1⟩
  have HB1 := Aside0.mk hb1
  have HC1 := Aside0.mk hC1
  clear hb1 hC1
  go_wp2_with fail
  refine (Kernel_ring A1 c1 _ HC1.out hc1).mono ?_
  rintro e w2 ⟨rfl, hb2⟩
  have HB2 := Aside0.mk (below_then HB1.out HB1.out.size hb2)
  clear hb2 HB1 HC1
  go_wp2_with fail
  refine (ring_any 5 3 ring3 _ ring3_f).mono ?_
  rintro e w3 ⟨A3, c3, rfl, hc3, hC3, hb3⟩
  have HB3 := Aside0.mk (below_then HB2.out HB2.out.size hb3)
  have HC3 := Aside0.mk hC3
  clear hb3 hC3 HB2
  go_wp2_with fail
  refine (Odd_ring A3 c3 _ HC3.out hc3).mono ?_
  rintro e w4 ⟨A4, c4, rfl, hc4, hC4, hb4⟩
  have HB4 := Aside0.mk (below_then HB3.out HB3.out.size hb4)
  have HC4 := Aside0.mk hC4
  clear hb4 hC4 HB3 HC3
  go_wp2_with fail
  refine (ring_any 6 4 ring4 _ ring4_f).mono ?_
  rintro e w5 ⟨A5, c5, rfl, hc5, hC5, hb5⟩
  have HB5 := Aside0.mk (below_then HB4.out HB4.out.size hb5)
  have HD5 := Aside0.mk (Kd.C_below HC4.out hb5)
  have HC5 := Aside0.mk hC5
  clear hb5 hC5 HB4 HC4
  go_wp2_with fail
  refine (Kernels_ring A5 c5 _ HC5.out hc5).mono ?_
  rintro e w6 ⟨rfl, hb6⟩
  have HB6 := Aside0.mk (below_then HB5.out HB5.out.size hb6)
  have HD6 := Aside0.mk (Kd.C_below HD5.out hb6)
  clear hb6 HB5 HC5 HD5
  go_wp2_with fail
  refine (ring_any 5 3 ring3 _ ring3_f).mono ?_
  rintro e w7 ⟨A7, c7, rfl, hc7, hC7, hb7⟩
  have HB7 := Aside0.mk (below_then HB6.out HB6.out.size hb7)
  have HD7 := Aside0.mk (Kd.C_below HD6.out hb7)
  have hC7t := Kd.C_take (m := 2) hC7 (by decide)
  have HC7 := Aside0.mk hC7t
  have hc7' : 3 ≤ c7 := hc7
  clear hb7 hC7 HB6 HD6 hC7t
  go_wp2_with (refine l_slice2 rfl rfl A7 3 c7 rfl (by omega) hc7' ?_)
  refine (Ranks_path A7 c7 _ HC7.out (by omega)).mono ?_
  rintro e w8 ⟨A8, c8, rfl, hc8, hC8, hb8⟩
  have HB8 := Aside0.mk (below_then HB7.out HB7.out.size hb8)
  have HD8 := Aside0.mk (Kd.C_below HD7.out hb8)
  have HC8 := Aside0.mk hC8
  clear hb8 hC8 HB7 HD7 HC7
  go_wp2_with fail
  refine (ring_any 5 3 ring3 _ ring3_f).mono ?_
  rintro e w9 ⟨A9, c9, rfl, hc9, hC9, hb9⟩
  have HB9 := Aside0.mk (below_then HB8.out HB8.out.size hb9)
  have HD9 := Aside0.mk (Kd.C_below HD8.out hb9)
  have HE9 := Aside0.mk (Kd.C_below HC8.out hb9)
  have hC9t := Kd.C_take (m := 2) hC9 (by decide)
  have HC9 := Aside0.mk hC9t
  have hc9' : 3 ≤ c9 := hc9
  clear hb9 hC9 HB8 HD8 HC8 hC9t
  go_wp2_with (refine l_slice2 rfl rfl A9 3 c9 rfl (by omega) hc9' ?_)
  refine (Sent_path A9 c9 _ HC9.out (by omega)).mono ?_
  rintro e wa ⟨Aa, ca, rfl, hca, hCa, hba⟩
  have HBa := Aside0.mk (below_then HB9.out HB9.out.size hba)
  have HDa := Aside0.mk (Kd.C_below HD9.out hba)
  have HEa := Aside0.mk (Kd.C_below HE9.out hba)
  have HFa := Aside0.mk hCa
  clear hba hCa HB9 HD9 HE9 HC9
  go_wp2_with fail
  have hbb : Below wa.heap.size wa (wa.alloc (.cells #[.int .i64 0, .int .i64 1, .int .i64 2] 3)) := below_alloc (Below.refl _ _) _
  have hCb := C_nums (l := [0, 1, 2]) (Blk.new wa 3 (numsA [0, 1, 2])) (by decide)
  refine (same3 0 1 2 (some A4) (some ⟨wa.heap.size, 0, none⟩) c4 3 _ (Kd.C_below HDa.out hbb) hCb hc4 (by omega)).mono ?_
  rintro e wb ⟨rfl, hdb⟩
  have hbw := below_then hbb hbb.size hdb.below
  have HBb := Aside0.mk (below_then HBa.out HBa.out.size hbw)
  have HEb := Aside0.mk (Kd.C_below HEa.out hbw)
  have HFb := Aside0.mk (Kd.C_below HFa.out hbw)
  clear hbb hCb hdb hbw HBa HDa HEa HFa
  go_wp2_with fail
  have hbc : Below wb.heap.size wb (wb.alloc (.cells #[.int .i64 0, .int .i64 1, .int .i64 0] 3)) := below_alloc (Below.refl _ _) _
  have hCc := C_nums (l := [0, 1, 0]) (Blk.new wb 3 (numsA [0, 1, 0])) (by decide)
  refine (same3 0 1 0 (some A8) (some ⟨wb.heap.size, 0, none⟩) c8 3 _ (Kd.C_below HEb.out hbc) hCc hc8 (by omega)).mono ?_
  rintro e wc ⟨rfl, hdc⟩
  have hbw := below_then hbc hbc.size hdc.below
  have HBc := Aside0.mk (below_then HBb.out HBb.out.size hbw)
  have hFc := Kd.C_below HFb.out hbw
  clear hbc hCc hdc hbw HBb HEb HFb
  obtain ⟨ad, rfl, s0⟩ := Kd.at_string hFc 0 (by omega) (by omega)
  obtain ⟨_, e1, s1⟩ := Kd.at_string hFc 1 (by omega) (by omega)
  cases e1
  obtain ⟨_, e1, s2⟩ := Kd.at_string hFc 2 (by omega) (by omega)
  cases e1
  have s0' : wc.cell? ad = some (.string ⟨#[33, 98]⟩) := s0
  have s1' : wc.cell? ⟨ad.block, ad.off + 1, none⟩ = some (.string ⟨#[33, 99]⟩) := s1
  have s2' : wc.cell? ⟨ad.block, ad.off + 2, none⟩ = some (.string ⟨#[49]⟩) := s2
  clear s0 s1 s2 hFc
  go_wp2_with fail
  go_ret
  exact ⟨rfl, HBc.out⟩
end Go.Proofs.Ytmobefgnkiboaaa.Im

namespace Go.Proofs.Ytmobefgnkiboaaa.Im
open Go.RowKit Go.Proofs.YtmobefgnkiboaaaW.PrintWords Go.Proofs.YtmobefgnkiboaaaW.PrintLast Go.Proofs.YtmobefgnkiboaaaW.PrintMore
set_option linter.unusedVariables false
theorem few_any (A B : Option Addr) (c d : Nat) (l : List S43) (xs : List Int) (w : World) (hA : Kd.C k43 w A l.length l) (hc : l.length ≤ c) (hB : Kd.C (Kd.int .i64) w B xs.length xs) (hd : xs.length ≤ d) :
    Calls Try.prog 14 #[.slice A l.length c, .slice B xs.length d] w fun e w' => e = .returned (.bool (decide (l.length ≤ 150) && decide (xs.length ≤ 50))) ∧ Below w.heap.size w w' := by
  have h : pomadelaw02_few.f l xs = some (decide (l.length ≤ 150) && decide (xs.length ≤ 50)) := by
    unfold pomadelaw02_few.f
    by_cases h : l.length ≤ 150
    · rw [if_pos (by omega), decide_eq_true h, Bool.true_and]
      congr 1
      rw [decide_eq_decide]; omega
    · rw [if_neg (by omega), decide_eq_false h]; rfl
  exact (pomadelaw02_few.calls A c l B d xs _ w hA hc hB hd h).mono fun e w' h => ⟨h.1, h.2.below⟩
theorem few_nil (A : Option Addr) (c : Nat) (l : List S43) (w : World) (hA : Kd.C k43 w A l.length l) (hc : l.length ≤ c) :
    Calls Try.prog 14 #[.slice A l.length c, .slice none 0 0] w fun e w' => e = .returned (.bool (decide (l.length ≤ 150))) ∧ Below w.heap.size w w' := by
  have h := few_any A none c 0 l [] w hA hc ⟨rfl, by simp, fun h => absurd h (by simp)⟩ (Nat.le_refl _)
  simpa using h
end Go.Proofs.Ytmobefgnkiboaaa.Im

namespace Go.Proofs.Ytmobefgnkiboaaa.Im
open Go.RowKit Go.Proofs.YtmobefgnkiboaaaW.PrintWords Go.Proofs.YtmobefgnkiboaaaW.PrintLast Go.Proofs.YtmobefgnkiboaaaW.PrintMore
set_option linter.unusedVariables false
theorem valid_any (n : Int) (A : Option Addr) (c : Nat) (l : List S43) (w : World) (hr : Kd.C k43 w A l.length l) (hc : l.length ≤ c) :
    Calls Try.prog 21 #[.int .i64 n, .slice A l.length c] w fun e w' => e = .returned (.bool (ofE n l == 0)) ∧ Below w.heap.size w w' := by
  have hg : Gives (fun k => pomadelaw02_valid.f k n l) (ofE n l == 0) := (Town_g n l).map fun k hk => by
    simp only [pomadelaw02_valid.f]
    rw [hk, Option.bind_some]
    by_cases he : ofE n l = 0
    · rw [if_pos he, he]
    · rw [if_neg he]
  obtain ⟨k0, hk0⟩ := hg
  exact pomadelaw02_valid.calls k0 n A c l _ w hr hc (hk0 k0 (Nat.le_refl _))
end Go.Proofs.Ytmobefgnkiboaaa.Im

namespace Go.Proofs.Ytmobefgnkiboaaa.Im
open Go.RowKit Go.Proofs.YtmobefgnkiboaaaW.PrintWords Go.Proofs.YtmobefgnkiboaaaW.PrintLast Go.Proofs.YtmobefgnkiboaaaW.PrintMore
set_option linter.unusedVariables false
def inK (n : Nat) (o : List Nat) (p x : Nat) : Bool := x &&& p == x && kerB n o x p
def kernL (n : Nat) (o : List Nat) (p : Nat) : List Nat := (List.range' 0 (p + 1)).filter (inK n o p)
theorem kernL_full (n : Nat) (o : List Nat) : kernL n o (2 ^ n - 1) = (List.range (2 ^ n)).filter fun s => kerB n o s (2 ^ n - 1) := by
  have h2 := Nat.two_pow_pos n
  unfold kernL
  rw [show 2 ^ n - 1 + 1 = 2 ^ n by omega, ← List.range_eq_range']
  apply List.filter_congr
  intro x hx
  have hx' := List.mem_range.1 hx
  unfold inK
  rw [Nat.and_two_pow_sub_one_eq_mod, Nat.mod_eq_of_lt hx', beq_self_eq_true, Bool.true_and]
theorem memL_pos {s : Nat} (hs : s < 4096) (h0 : 0 < s) : 0 < (memL s).length := by
  rcases Nat.eq_zero_or_pos (memL s).length with h | h
  · have := memL_nil hs (List.eq_nil_of_length_eq_zero h); omega
  · exact h
end Go.Proofs.Ytmobefgnkiboaaa.Im

namespace Go.Proofs.Ytmobefgnkiboaaa.Im
open Go.RowKit Go.Proofs.YtmobefgnkiboaaaW.PrintWords Go.Proofs.YtmobefgnkiboaaaW.PrintLast Go.Proofs.YtmobefgnkiboaaaW.PrintMore
set_option linter.unusedVariables false
/-- A list and an error; with an error the list is empty. -/
def OutO (r : List Nat) (er : Int) (w : World) (e : Ending) (w' : World) : Prop :=
  ∃ A c, e = .returned (.tuple #[.slice A r.length c, .int .i64 er]) ∧ r.length ≤ c ∧ Kd.C (Kd.int .i64) w' A r.length (ints r) ∧ Below w.heap.size w w'
def listF (n : Int) (l : List S43) (x : Option (List Nat)) : List Nat := if ofE n l = 0 then x.getD [] else []
def errF (n : Int) (l : List S43) (x : Option (List Nat)) : Int := if ofE n l = 0 then (if x.isSome then 0 else 10) else ofE n l
theorem outO_nil (er : Int) (w w' : World) (h : Below w.heap.size w w') : OutO [] er w (.returned (.tuple #[.slice none 0 0, .int .i64 er])) w' :=
  ⟨none, 0, rfl, Nat.le_refl _, C_nil w', h⟩
theorem outO_first {n : Int} {l : List S43} {w : World} {x : Option Nat} {e : Ending} {w' : World}
    (h : if ofE n l = 0 then FirstR w x e w' else e = .returned (.tuple #[.slice none 0 0, .int .i64 (ofE n l)]) ∧ Below w.heap.size w w') : OutO (listF n l (x.map memL)) (errF n l (x.map memL)) w e w' := by
  unfold listF errF
  by_cases he : ofE n l = 0
  · rw [if_pos he] at h
    rw [if_pos he, if_pos he]
    cases x with
    | none => obtain ⟨rfl, h2⟩ := h; exact outO_nil _ _ _ h2
    | some r =>
      obtain ⟨v, rfl, h2, h3⟩ := h
      obtain ⟨A, c, rfl, h4, h5⟩ := Kd.R_reads h2
      rw [ints_length] at h4 h5 ⊢
      exact ⟨A, c, rfl, h4, h5, h3⟩
  · rw [if_neg he] at h
    rw [if_neg he, if_neg he]
    obtain ⟨rfl, h2⟩ := h; exact outO_nil _ _ _ h2
theorem kerB_zero {n : Nat} (o : List Nat) (h : 1 ≤ n) : kerB n o 0 (2 ^ n - 1) = false := by
  cases hb : kerB n o 0 (2 ^ n - 1) with
  | false => rfl
  | true =>
    have := ((kerB_iff n o 0).1 hb 0 (by omega)).2 (Nat.zero_testBit 0)
    simp at this
def kerO (n : Int) (l : List S43) : Option (List Nat) := (firstS (fun s => kerB n.toNat (townO l) s (2 ^ n.toNat - 1)) n.toNat).map memL
theorem progKernel_any (n : Int) (A : Option Addr) (c : Nat) (l : List S43) (w : World) (hr : Kd.C k43 w A l.length l) (hc : l.length ≤ c) :
    Calls Try.prog 23 #[.int .i64 n, .slice A l.length c] w (OutO (listF n l (kerO n l)) (errF n l (kerO n l)) w) :=
  (Kernel_any n A c l w hr hc).mono fun e w' h => outO_first h
theorem kerO_eq {n : Int} {l : List S43} (he : ofE n l = 0) : kerO n l = (bestS (kernL n.toNat (townO l) (2 ^ n.toNat - 1))).map memL := by
  have ok := okt_of he
  unfold kerO
  rw [first_eq _ _ ok.n12 (kerB_zero _ ok.n1), kernL_full]
end Go.Proofs.Ytmobefgnkiboaaa.Im

namespace Go.Proofs.Ytmobefgnkiboaaa.Im
open Go.RowKit Go.Proofs.YtmobefgnkiboaaaW.PrintWords Go.Proofs.YtmobefgnkiboaaaW.PrintLast Go.Proofs.YtmobefgnkiboaaaW.PrintMore
set_option linter.unusedVariables false
def okS (o : List Nat) (p s a b : Nat) : Bool := !(s.testBit a && (o.getD a 0 &&& p).testBit b && (o.getD b 0 &&& s == 0))
def semiB (n : Nat) (o : List Nat) (p s : Nat) : Bool := ((List.range n).all fun a => (List.range n).all fun b => okS o p s a b) && (decide (0 < s) && (List.range n).all (indB o s))
section
variable (n : Nat) (o : List Nat) (ok : Okt n o) (p s : Nat) (hp : p < 4096) (hs : s < 4096)
include ok hp hs
theorem semi_l1 (a : Nat) (ha : a < n) (R : Bool) (hno : (∃ b, b < n ∧ okS o p s a b = false) → R = false)
    (hg : (∀ b, b < n → okS o p s a b = true) → Gives (fun k => pomaderef02_semi.l0 k (ints (o.take n)) p s ((a + 1 : Nat) : Int)) R) :
    ∀ (d b : Nat), b + d = n → (∀ j, j < b → okS o p s a j = true) → Gives (fun k => pomaderef02_semi.l1 k (ints (o.take n)) p s a b) R
  | 0, b, h, hq => by
    have hTl := takes_len ok
    have n12 := ok.n12
    refine (hg (fun b' hb' => hq b' (by omega))).step fun k hk => ?_
    simp only [pomaderef02_semi.l1]
    rw [if_neg (by omega), wr_succ a (by omega)]
    exact hk
  | d + 1, b, h, hq => by
    have hTl := takes_len ok
    have n12 := ok.n12
    have hoa := ok.lt12 a
    have hob := ok.lt12 b
    have next : okS o p s a b = true → Gives (fun k => pomaderef02_semi.l1 k (ints (o.take n)) p s a ((b + 1 : Nat) : Int)) R := fun hb =>
      semi_l1 a ha R hno hg d (b + 1) (by omega) (fun j hj => by
        rcases Nat.lt_or_ge j b with h1 | h1
        · exact hq j h1
        · obtain rfl : j = b := by omega
          exact hb)
    cases h1 : s.testBit a
    · refine (next (by unfold okS; rw [h1]; rfl)).step fun k hk => ?_
      simp only [pomaderef02_semi.l1]
      rw [if_pos (by omega), if_pos (by omega), if_neg (by rw [tbit1 _ _ (by omega), h1]; simp), wr_succ b (by omega)]
      exact hk
    · have hand : o.getD a 0 &&& p < 4096 := Nat.lt_of_le_of_lt Nat.and_le_left hoa
      cases h2 : (o.getD a 0 &&& p).testBit b
      · refine (next (by unfold okS; rw [h1, h2]; rfl)).step fun k hk => ?_
        simp only [pomaderef02_semi.l1]
        rw [if_pos (by omega), if_pos (by omega), if_pos (by rw [tbit1 _ _ (by omega), h1]), if_pos (by omega), if_pos (by omega), rd_takes o n a ha, b_and _ _ (by omega) (by omega), if_neg (by rw [tbit1 _ _ (by omega), h2]; simp), wr_succ b (by omega)]
        exact hk
      · by_cases h0 : o.getD b 0 &&& s = 0
        · rw [hno ⟨b, by omega, by unfold okS; rw [h1, h2, h0]; rfl⟩]
          refine Gives.now fun k => ?_
          simp only [pomaderef02_semi.l1]
          rw [if_pos (by omega), if_pos (by omega), if_pos (by rw [tbit1 _ _ (by omega), h1]), if_pos (by omega), if_pos (by omega), rd_takes o n a ha, b_and _ _ (by omega) (by omega), if_pos (by rw [tbit1 _ _ (by omega), h2]), rd_takes o n b (by omega), b_and _ _ (by omega) (by omega), if_pos (by omega)]
        · refine (next (by unfold okS; rw [h1, h2, beq_eq_false_iff_ne.2 h0]; rfl)).step fun k hk => ?_
          simp only [pomaderef02_semi.l1]
          rw [if_pos (by omega), if_pos (by omega), if_pos (by rw [tbit1 _ _ (by omega), h1]), if_pos (by omega), if_pos (by omega), rd_takes o n a ha, b_and _ _ (by omega) (by omega), if_pos (by rw [tbit1 _ _ (by omega), h2]), rd_takes o n b (by omega), b_and _ _ (by omega) (by omega), if_neg (by omega), wr_succ b (by omega)]
          exact hk
theorem semi_l0 : ∀ (d a : Nat), a + d = n → (∀ j, j < a → ∀ b, b < n → okS o p s j b = true) → Gives (fun k => pomaderef02_semi.l0 k (ints (o.take n)) p s a) (semiB n o p s)
  | 0, a, h, hq => by
    have hTl := takes_len ok
    have e : semiB n o p s = (decide (0 < s) && (List.range n).all (indB o s)) := by
      unfold semiB
      have : ((List.range n).all fun a => (List.range n).all fun b => okS o p s a b) = true := by
        rw [List.all_eq_true]; intro x hx; rw [List.all_eq_true]; intro y hy
        exact hq x (by have := List.mem_range.1 hx; omega) y (List.mem_range.1 hy)
      rw [this, Bool.true_and]
    rw [e]
    refine (ind_g n o ok s hs).step fun k hk => ?_
    simp only [pomaderef02_semi.l0]
    rw [if_neg (by omega)]
    by_cases h0 : 0 < s
    · rw [if_pos (by omega), hk, Option.bind_some, decide_eq_true h0, Bool.true_and]
    · rw [if_neg (by omega), decide_eq_false h0, Bool.false_and]
  | d + 1, a, h, hq => by
    have hTl := takes_len ok
    refine (semi_l1 n o ok p s hp hs a (by omega) (semiB n o p s) (fun ⟨b, hb, hf⟩ => ?_) (fun hb => ?_) n 0 (by omega) (fun j hj => by omega)).step fun k hk => ?_
    · unfold semiB
      have : ((List.range n).all fun a => (List.range n).all fun b => okS o p s a b) = false := by
        rw [List.all_eq_false]
        refine ⟨a, List.mem_range.2 (by omega), ?_⟩
        rw [Bool.not_eq_true, List.all_eq_false]
        exact ⟨b, List.mem_range.2 hb, by rw [hf]; simp⟩
      rw [this, Bool.false_and]
    · exact semi_l0 d (a + 1) (by omega) (fun j hj => by
        rcases Nat.lt_or_ge j a with h1 | h1
        · exact hq j h1
        · obtain rfl : j = a := by omega
          exact hb)
    · simp only [pomaderef02_semi.l0]
      rw [if_pos (by omega)]
      exact hk
theorem semi_g : Gives (fun k => pomaderef02_semi.f k (ints (o.take n)) p s) (semiB n o p s) := semi_l0 n o ok p s hp hs n 0 (by omega) (fun j hj => by omega)
end
end Go.Proofs.Ytmobefgnkiboaaa.Im

namespace Go.Proofs.Ytmobefgnkiboaaa.Im
open Go.RowKit Go.Proofs.YtmobefgnkiboaaaW.PrintWords Go.Proofs.YtmobefgnkiboaaaW.PrintLast Go.Proofs.YtmobefgnkiboaaaW.PrintMore
set_option linter.unusedVariables false
def reachL (o M : List Nat) (r : Nat) : Nat := M.foldl (fun r i => r ||| o.getD i 0) r
theorem reachL_bit (o : List Nat) (b : Nat) : ∀ (M : List Nat) (r : Nat), (reachL o M r).testBit b = (r.testBit b || M.any fun i => (o.getD i 0).testBit b)
  | [], r => by simp [reachL]
  | i :: M, r => by
    show (reachL o M (r ||| o.getD i 0)).testBit b = _
    rw [reachL_bit o b M, Nat.testBit_or, List.any_cons, Bool.or_assoc]
def semB (n : Nat) (o : List Nat) (s : Nat) : Bool := s != 0 && AllB n (indB o s) (absB o s (reachL o (memL s) 0))
theorem semB_eq {n : Nat} {o : List Nat} (ok : Okt n o) (s : Nat) (hs : s < 2 ^ n) : semB n o s = semiB n o (2 ^ n - 1) s := by
  have n12 := ok.n12
  have bitN : ∀ {x i : Nat}, x < 2 ^ n → x.testBit i = true → i < n := fun {x i} hx hb => by
    rcases Nat.lt_or_ge i n with h | h
    · exact h
    · rw [Nat.testBit_lt_two_pow (Nat.lt_of_lt_of_le hx (Nat.pow_le_pow_right (by decide) h))] at hb; cases hb
  rw [Bool.eq_iff_iff]
  unfold semB semiB AllB
  rw [Bool.and_eq_true, Bool.and_eq_true, Bool.and_eq_true, List.all_eq_true, List.all_eq_true, List.all_eq_true, decide_eq_true_eq, bne_iff_ne]
  have hr : ∀ b, (reachL o (memL s) 0).testBit b = true ↔ ∃ a, a < n ∧ s.testBit a = true ∧ (o.getD a 0).testBit b = true := fun b => by
    rw [reachL_bit, Nat.zero_testBit, Bool.false_or, List.any_eq_true]
    constructor
    · rintro ⟨a, ha, hb⟩
      rw [memL_mem] at ha
      exact ⟨a, bitN hs ha.2, ha.2, hb⟩
    · rintro ⟨a, ha, h1, h2⟩
      exact ⟨a, (memL_mem s a).2 ⟨by omega, h1⟩, h2⟩
  constructor
  · rintro ⟨h0, h1⟩
    refine ⟨fun a ha => ?_, by omega, fun a ha => ?_⟩
    · rw [List.all_eq_true]
      intro b hb
      have ha' := List.mem_range.1 ha
      have hb' := List.mem_range.1 hb
      have q := h1 b hb
      rw [Bool.and_eq_true] at q
      have qa := h1 a ha
      rw [Bool.and_eq_true] at qa
      unfold okS
      cases e1 : s.testBit a with
      | false => rfl
      | true =>
        cases e2 : (o.getD a 0 &&& (2 ^ n - 1)).testBit b with
        | false => rfl
        | true =>
          have e3 : (o.getD a 0).testBit b = true := by rw [Nat.testBit_and, Bool.and_eq_true] at e2; exact e2.1
          have hre := (hr b).2 ⟨a, ha', e1, e3⟩
          have hsb : s.testBit b = false := by
            cases e4 : s.testBit b with
            | false => rfl
            | true =>
              have q1 := qa.1
              unfold indB at q1
              rw [e1] at q1
              have q2 : o.getD a 0 &&& s = 0 := by simpa using q1
              exact absurd ⟨e3, e4⟩ ((land_zero _ _).1 q2 b)
          have q1 := q.2
          unfold absB at q1
          rw [hre, hsb] at q1
          have q2 : o.getD b 0 &&& s ≠ 0 := by simpa using q1
          rw [beq_eq_false_iff_ne.2 q2]
          rfl
    · have q := h1 a ha
      rw [Bool.and_eq_true] at q
      exact q.1
  · rintro ⟨h1, h0, h2⟩
    refine ⟨by omega, fun b hb => ?_⟩
    rw [Bool.and_eq_true]
    refine ⟨h2 b hb, ?_⟩
    unfold absB
    cases e1 : (reachL o (memL s) 0).testBit b with
    | false => rfl
    | true =>
      cases e2 : s.testBit b with
      | true => rfl
      | false =>
        obtain ⟨a, ha, h3, h4⟩ := (hr b).1 e1
        have q := h1 a (List.mem_range.2 ha)
        rw [List.all_eq_true] at q
        have q1 := q b hb
        unfold okS at q1
        have e3 : (o.getD a 0 &&& (2 ^ n - 1)).testBit b = true := by
          rw [Nat.testBit_and, h4, Nat.testBit_two_pow_sub_one, decide_eq_true (List.mem_range.1 hb)]; rfl
        rw [h3, e3] at q1
        have q2 : o.getD b 0 &&& s ≠ 0 := by simpa using q1
        simpa using q2
end Go.Proofs.Ytmobefgnkiboaaa.Im

namespace Go.Proofs.Ytmobefgnkiboaaa.Im
open Go.RowKit Go.Proofs.YtmobefgnkiboaaaW.PrintWords Go.Proofs.YtmobefgnkiboaaaW.PrintLast Go.Proofs.YtmobefgnkiboaaaW.PrintMore
set_option linter.unusedVariables false
theorem semB_zero (n : Nat) (o : List Nat) : semB n o 0 = false := rfl
def semO (n : Int) (l : List S43) : Option (List Nat) := (firstS (fun s => semB n.toNat (townO l) s) n.toNat).map memL
end Go.Proofs.Ytmobefgnkiboaaa.Im

namespace Go.Proofs.Ytmobefgnkiboaaa.Im
open Go.RowKit Go.Proofs.YtmobefgnkiboaaaW.PrintWords Go.Proofs.YtmobefgnkiboaaaW.PrintLast Go.Proofs.YtmobefgnkiboaaaW.PrintMore
set_option linter.unusedVariables false
theorem reachL_snoc (o M : List Nat) (k : Nat) (h : k < M.length) : reachL o (M.take (k + 1)) 0 = reachL o (M.take k) 0 ||| o.getD (M.getD k 0) 0 := by
  rw [List.take_succ_eq_append_getElem h]
  unfold reachL
  rw [List.foldl_append]
  simp [h]
theorem reachL_lt {n : Nat} {o : List Nat} (ok : Okt n o) : ∀ (M : List Nat) (r : Nat), r < 2 ^ n → reachL o M r < 2 ^ n
  | [], r, h => h
  | i :: M, r, h => reachL_lt ok M _ (Nat.or_lt_two_pow h (ok.lt i))
theorem ex_neq0 {a : Act} {o : Oper} {x : Operand} (ho : o.op = .binOp .neq 3 x (.const (.int .i64 0)) 3) (w : World) (v : Int) (hx : a.eval x = .int .i64 v) :
    (execOp a.eval o).run Try.prog w = .ok (.value (.bool (v != 0))) w := by
  have h0 : a.eval (.const (.int .i64 0)) = .int .i64 0 := rfl
  have hl : (binOp .neq 3 (.int .i64 v) (.int .i64 0)).run Try.prog w = .ok (.bool (v != 0)) w := rfl
  have hg : (eqGuard .neq 3 x (.const (.int .i64 0)) (.int .i64 v) (.int .i64 0)).run Try.prog w = .ok () w := by
    first
      | kernel_rfl
      | (simp [eqGuard]; done)
      | (simp [eqGuard, Try.underlying43]; done)
  unfold execOp
  simp [ho, hx, h0, hl, hg, Result.andThen]
theorem ex_neq0' {a : Act} {o : Oper} {x : Operand} (ho : o.op = .binOp .neq 3 x (.const (.int .i64 0)) 3) (w : World) (v : Int) {b : Bool} (hb : (v != 0) = b) (hx : a.eval x = .int .i64 v) :
    (execOp a.eval o).run Try.prog w = .ok (.value (.bool b)) w := hb ▸ ex_neq0 ho w v hx
set_option maxHeartbeats 1600000 in
set_option maxRecDepth 100000 in
theorem semi1_any (n : Nat) (o : List Nat) (s g : Nat) (w : World) (ok : Okt n o) (hs : s < 4096) (ht : TnN w g n o) :
    Calls Try.prog 59 #[.int .i64 (s : Nat), .pointer (some ⟨g, 0, none⟩)] w fun e w' => e = .returned (.bool (semB n o s)) ∧ Below w.heap.size w w' := by
  have n12 := ok.n12
  have HT := Aside0.mk ht
  have HK := Aside0.mk ok
  have h2n : 2 ^ n ≤ 4096 := (Nat.pow_le_pow_right (by decide) n12 : 2 ^ n ≤ 2 ^ 12)
  have hlen := memL_len s
  have HM := Aside0.mk (fun (x : Nat) (hx : x ∈ memL s) => memL_lt hx)
  have HRL := Aside0.mk (fun k => reachL_lt ok ((memL s).take k) 0 (Nat.two_pow_pos n))
  obtain ⟨M, hM⟩ : ∃ M, memL s = M := ⟨_, rfl⟩
  have hm := members_any s w hs
  rw [show mem12 s 0 = M from hM] at hm
  rw [hM] at HM HRL hlen
  have hB : semB n o s = (s != 0 && AllB n (indB o s) (absB o s (reachL o M 0))) := by rw [← hM]; rfl
  rw [hB]
  have HMm := Aside0.mk hm
  clear hm hM hB ht ok
  go_enter Try.func59, Try.ntmps59
  go_wp2_with fail
  refine HMm.out.mono ?_
  rintro e w1 ⟨v, rfl, hr, hb⟩
  have HB := Aside0.mk hb
  have HT1 := Aside0.mk (Blk.later HT.out hb)
  obtain ⟨A, c, rfl, hlc, hC⟩ := Kd.R_reads hr
  have hil : (ints M).length = M.length := ints_length M
  have HC := Aside0.mk hC
  clear hC hr hb HT
  rw [hil] at hlc HC ⊢
  clear hil
  go_wp2_with fail
  go_loop [4, 10] (fun v4 v10 => ∃ k : Nat, k ≤ M.length ∧ v10 = .int .i64 (k : Int) ∧ v4 = .int .i64 (reachL o (M.take k) 0 : Nat)) (fun _ v10 => M.length - (intOf v10).toNat)
  case atStart => exact ⟨0, Nat.zero_le _, rfl, rfl⟩
  case round =>
    obtain ⟨k, hk, rfl, rfl⟩ := hrel
    have hrl := HRL.out k
    by_cases hkl : k < M.length
    · obtain ⟨ad, rfl, cm⟩ := Kd.at_int HC.out (k : Int) (by omega) (by omega)
      rw [rd_ints, Int.toNat_natCast] at cm
      have hj := HM.out (M.getD k 0) (by rw [List.getD_eq_getElem?_getD, List.getElem?_eq_getElem hkl]; exact List.getElem_mem hkl)
      have hsn := reachL_snoc o M k hkl
      obtain ⟨j, hjj⟩ : ∃ j, M.getD k 0 = j := ⟨_, rfl⟩
      rw [hjj] at cm hj hsn
      have co := TnN.cellS HT1.out j (by rw [HK.out.len]; exact hj)
      have holt := HK.out.lt12 j
      obtain ⟨oj, hoj⟩ : ∃ oj, o.getD j 0 = oj := ⟨_, rfl⟩
      rw [hoj] at co holt hsn
      rw [Nat.add_comm j 1] at co
      have j0 : (0 : Int) ≤ j := by omega
      have j1 : (j : Int) < 12 := by omega
      have hor := b_or (reachL o (M.take k) 0) oj (by omega) (by omega)
      have HSN : Aside0 ((reachL o (M.take (k + 1)) 0 : Nat) = bits .or .i64 (reachL o (M.take k) 0 : Nat) (oj : Nat)) := ⟨by rw [hsn]; exact hor.symm⟩
      clear hsn hjj hoj hor
      generalize reachL o (M.take k) 0 = r at *
      go_wp2_with fail
      go_round
      case rel => exact ⟨k + 1, by omega, by go_num, by rw [HSN.out]⟩
      case measure => simp [intOf]; omega
    · obtain rfl : k = M.length := by omega
      rw [List.take_length] at hrl ⊢
      obtain ⟨r, hr⟩ : ∃ r, reachL o M 0 = r := ⟨_, rfl⟩
      rw [hr] at hrl ⊢
      have HRr := Aside0.mk hr
      clear hr
      go_wp2_with fail
      have hb0 : Below w.heap.size w w1.drew := below_drew HB.out
      have hT0 : TnN w1.drew g n o := HT1.out
      refine wp_region_held (S := fun wx => TnN wx g n o ∧ Below w.heap.size w wx) (by kernel_rfl) ?_
      have HS : TnN w1.drew g n o ∧ Below w.heap.size w w1.drew := ⟨hT0, hb0⟩
      by_cases h0 : s = 0
      · obtain rfl := h0
        refine tk (i := 0) 21 (v := .int .i64 (0 : Nat)) rfl rfl (by kernel_rfl) (by kernel_rfl) (by kernel_rfl) (fun _ _ _ h => h) (by kernel_rfl) (fun wx _ => by kernel_rfl) HS ?_
        simp only [pt_lit, List.set_cons_succ, List.set_cons_zero]
        refine tk (i := 1) 22 (v := .bool false) rfl rfl (by kernel_rfl) (by kernel_rfl) (by kernel_rfl) (fun _ _ _ h => h) (by kernel_rfl) (fun wx _ => ex_neq0 rfl wx 0 rfl) HS ?_
        simp only [pt_lit, List.set_cons_succ, List.set_cons_zero]
        refine tk (i := 2) 23 (v := .bool false) rfl rfl (by kernel_rfl) (by kernel_rfl) (by kernel_rfl) (fun _ _ _ h => h) (by kernel_rfl) (fun wx _ => by kernel_rfl) HS ?_
        simp only [pt_lit, List.set_cons_succ, List.set_cons_zero]
        refine tk_not (i := 3) 24 rfl rfl (by kernel_rfl) (by kernel_rfl) (by kernel_rfl) (fun _ _ _ h => h) (by kernel_rfl) HS ?_
        simp only [pt_lit, List.set_cons_succ, List.set_cons_zero]
        refine tk_not (i := 4) 25 rfl rfl (by kernel_rfl) (by kernel_rfl) (by kernel_rfl) (fun _ _ _ h => h) (by kernel_rfl) HS ?_
        simp only [pt_lit, List.set_cons_succ, List.set_cons_zero]
        refine tk_not (i := 5) 26 rfl rfl (by kernel_rfl) (by kernel_rfl) (by kernel_rfl) (fun _ _ _ h => h) (by kernel_rfl) HS ?_
        simp only [pt_lit, List.set_cons_succ, List.set_cons_zero]
        refine tk_not (i := 6) 27 rfl rfl (by kernel_rfl) (by kernel_rfl) (by kernel_rfl) (fun _ _ _ h => h) (by kernel_rfl) HS ?_
        simp only [pt_lit, List.set_cons_succ, List.set_cons_zero]
        refine tk_not (i := 7) 28 rfl rfl (by kernel_rfl) (by kernel_rfl) (by kernel_rfl) (fun _ _ _ h => h) (by kernel_rfl) HS ?_
        simp only [pt_lit, List.set_cons_succ, List.set_cons_zero]
        refine tk_not (i := 8) 29 rfl rfl (by kernel_rfl) (by kernel_rfl) (by kernel_rfl) (fun _ _ _ h => h) (by kernel_rfl) HS ?_
        simp only [pt_lit, List.set_cons_succ, List.set_cons_zero]
        refine tk_not (i := 9) 30 rfl rfl (by kernel_rfl) (by kernel_rfl) (by kernel_rfl) (fun _ _ _ h => h) (by kernel_rfl) HS ?_
        simp only [pt_lit, List.set_cons_succ, List.set_cons_zero]
        refine tk_not (i := 10) 31 rfl rfl (by kernel_rfl) (by kernel_rfl) (by kernel_rfl) (fun _ _ _ h => h) (by kernel_rfl) HS ?_
        simp only [pt_lit, List.set_cons_succ, List.set_cons_zero]
        refine tk_not (i := 11) 32 rfl rfl (by kernel_rfl) (by kernel_rfl) (by kernel_rfl) (fun _ _ _ h => h) (by kernel_rfl) HS ?_
        simp only [pt_lit, List.set_cons_succ, List.set_cons_zero]
        refine tk_not (i := 12) 33 rfl rfl (by kernel_rfl) (by kernel_rfl) (by kernel_rfl) (fun _ _ _ h => h) (by kernel_rfl) HS ?_
        simp only [pt_lit, List.set_cons_succ, List.set_cons_zero]
        refine tk (i := 13) 34 (v := .bool false) rfl rfl (by kernel_rfl) (by kernel_rfl) (by kernel_rfl) (fun _ _ _ h => h) (by kernel_rfl) (fun wx _ => by kernel_rfl) HS ?_
        simp only [pt_lit, List.set_cons_succ, List.set_cons_zero]
        refine tk (i := 14) 3 (v := .bool false) rfl rfl (by kernel_rfl) (by kernel_rfl) (by kernel_rfl) (fun _ _ _ h => h) (by kernel_rfl) (fun wx _ => by kernel_rfl) HS ?_
        simp only [pt_lit, List.set_cons_succ, List.set_cons_zero]
        refine wpAnyH_done (by kernel_rfl) ?_ _
        go_wp2_with fail
        go_ret
        exact ⟨rfl, HS.2⟩
      · have hne : ((s : Int) != 0) = true := bne_iff_ne.2 (by omega)
        refine tk (i := 0) 21 (v := .int .i64 (s : Nat)) rfl rfl (by kernel_rfl) (by kernel_rfl) (by kernel_rfl) (fun _ _ _ h => h) (by kernel_rfl) (fun wx _ => by kernel_rfl) HS ?_
        simp only [pt_lit, List.set_cons_succ, List.set_cons_zero]
        refine tk (i := 1) 22 (v := .bool true) rfl rfl (by kernel_rfl) (by kernel_rfl) (by kernel_rfl) (fun _ _ _ h => h) (by kernel_rfl) (fun wx _ => ex_neq0' rfl wx s hne rfl) HS ?_
        simp only [pt_lit, List.set_cons_succ, List.set_cons_zero]
        refine tk (i := 2) 23 (v := .bool true) rfl rfl (by kernel_rfl) (by kernel_rfl) (by kernel_rfl) (fun _ _ _ h => h) (by kernel_rfl) (fun wx _ => by kernel_rfl) HS ?_
        simp only [pt_lit, List.set_cons_succ, List.set_cons_zero]
        refine tk (i := 3) 24 (v := .agg (tnN n o)) rfl rfl (by kernel_rfl) (by kernel_rfl) (by kernel_rfl) (fun _ _ _ h => h) (by kernel_rfl) (fun wx h => ex_load_tn rfl wx g n o rfl h.1 HK.out.len) HS ?_
        simp only [pt_lit, List.set_cons_succ, List.set_cons_zero]
        refine tk (i := 4) 25 (v := .agg (tnN n o)) rfl rfl (by kernel_rfl) (by kernel_rfl) (by kernel_rfl) (fun _ _ _ h => h) (by kernel_rfl) (fun wx h => ex_load_tn rfl wx g n o rfl h.1 HK.out.len) HS ?_
        simp only [pt_lit, List.set_cons_succ, List.set_cons_zero]
        refine tk (i := 5) 26 (v := .int .i64 (s : Nat)) rfl rfl (by kernel_rfl) (by kernel_rfl) (by kernel_rfl) (fun _ _ _ h => h) (by kernel_rfl) (fun wx _ => by kernel_rfl) HS ?_
        simp only [pt_lit, List.set_cons_succ, List.set_cons_zero]
        refine tk (i := 7) 28 (v := .agg (tnN n o)) rfl rfl (by kernel_rfl) (by kernel_rfl) (by kernel_rfl) (fun _ _ _ h => h) (by kernel_rfl) (fun wx h => ex_load_tn rfl wx g n o rfl h.1 HK.out.len) HS ?_
        simp only [pt_lit, List.set_cons_succ, List.set_cons_zero]
        refine tk (i := 8) 29 (v := .int .i64 (s : Nat)) rfl rfl (by kernel_rfl) (by kernel_rfl) (by kernel_rfl) (fun _ _ _ h => h) (by kernel_rfl) (fun wx _ => by kernel_rfl) HS ?_
        simp only [pt_lit, List.set_cons_succ, List.set_cons_zero]
        refine tk (i := 9) 30 (v := .int .i64 (r : Nat)) rfl rfl (by kernel_rfl) (by kernel_rfl) (by kernel_rfl) (fun _ _ _ h => h) (by kernel_rfl) (fun wx _ => by kernel_rfl) HS ?_
        simp only [pt_lit, List.set_cons_succ, List.set_cons_zero]
        refine rc 27 (i := 6) (f := 61) (args := #[.agg (tnN n o), .int .i64 (s : Nat)]) (by kernel_rfl) rfl rfl (by kernel_rfl) (by kernel_rfl) ?_
        refine (indep_any n o s _ HK.out (by omega)).mono ?_
        rintro e w2 ⟨cap1, rfl, T1, hb1⟩
        have HS1 : TnN w2 g n o ∧ Below w.heap.size w w2 := ⟨Blk.later HS.1 hb1, below_then HS.2 HS.2.size hb1⟩
        refine ⟨_, rfl, HS1, ?_⟩
        simp only [pt_lit, List.set_cons_succ, List.set_cons_zero]
        refine rc 31 (i := 10) (f := 62) (args := #[.agg (tnN n o), .int .i64 (s : Nat), .int .i64 (r : Nat)]) (by kernel_rfl) rfl rfl (by kernel_rfl) (by kernel_rfl) ?_
        refine (absb_any n o s r _ HK.out (by omega) (by omega)).mono ?_
        rintro e w3 ⟨cap2, rfl, T2, hb2⟩
        have HS2 : TnN w3 g n o ∧ Below w.heap.size w w3 := ⟨Blk.later HS1.1 hb2, below_then HS1.2 HS1.2.size hb2⟩
        refine ⟨_, rfl, HS2, ?_⟩
        simp only [pt_lit, List.set_cons_succ, List.set_cons_zero]
        have hb3 : Below w3.heap.size w3 (w3.alloc (.cells #[.func (.func 86) #[] cap1, .func (.func 87) #[] cap2] 62)) := below_alloc (Below.refl _ _) _
        have hB := Blk.new w3 62 #[.func (.func 86) #[] cap1, .func (.func 87) #[] cap2]
        have HS3 : TnN (w3.alloc (.cells #[.func (.func 86) #[] cap1, .func (.func 87) #[] cap2] 62)) g n o ∧ Below w.heap.size w (w3.alloc (.cells #[.func (.func 86) #[] cap1, .func (.func 87) #[] cap2] 62)) := ⟨Blk.later HS2.1 hb3, below_then HS2.2 HS2.2.size hb3⟩
        refine rv 32 (i := 11) (v := .slice (some ⟨w3.heap.size, 0, none⟩) 2 2) (w' := w3.alloc (.cells #[.func (.func 86) #[] cap1, .func (.func 87) #[] cap2] 62)) (by kernel_rfl) rfl rfl (by kernel_rfl) (by kernel_rfl) HS3 ?_
        simp only [pt_lit, List.set_cons_succ, List.set_cons_zero]
        refine rc 33 (i := 12) (f := 60) (args := #[.agg (tnN n o), .slice (some ⟨w3.heap.size, 0, none⟩) 2 2]) (by kernel_rfl) rfl rfl (by kernel_rfl) (by kernel_rfl) ?_
        refine (all_any n o 86 87 cap1 cap2 _ _ _ _ HK.out (by rw [hB.cell]; rfl) (by rw [hB.cell]; rfl) ((T1.later hb2).later hb3) (T2.later hb3)).mono ?_
        rintro e w4 ⟨rfl, hb4⟩
        have HS4 : TnN w4 g n o ∧ Below w.heap.size w w4 := ⟨Blk.later HS3.1 hb4, below_then HS3.2 HS3.2.size hb4⟩
        refine ⟨_, rfl, HS4, ?_⟩
        simp only [pt_lit, List.set_cons_succ, List.set_cons_zero]
        refine tk (i := 13) 34 (v := .bool (AllB n (indB o s) (absB o s r))) rfl rfl (by kernel_rfl) (by kernel_rfl) (by kernel_rfl) (fun _ _ _ h => h) (by kernel_rfl) (fun wx _ => by kernel_rfl) HS4 ?_
        simp only [pt_lit, List.set_cons_succ, List.set_cons_zero]
        refine tk (i := 14) 3 (v := .bool (AllB n (indB o s) (absB o s r))) rfl rfl (by kernel_rfl) (by kernel_rfl) (by kernel_rfl) (fun _ _ _ h => h) (by kernel_rfl) (fun wx _ => by kernel_rfl) HS4 ?_
        simp only [pt_lit, List.set_cons_succ, List.set_cons_zero]
        refine wpAnyH_done (by kernel_rfl) ?_ _
        go_wp2_with fail
        go_ret
        have hs' : (s != 0) = true := by simpa using h0
        exact ⟨by rw [hs', Bool.true_and, HRr.out]; rfl, HS4.2⟩
def SemiPost (n : Int) (l : List S43) (w : World) (e : Ending) (w' : World) : Prop :=
  if ofE n l = 0 then FirstR w (firstS (fun s => semB n.toNat (townO l) s) n.toNat) e w'
  else e = .returned (.tuple #[.slice none 0 0, .int .i64 (ofE n l)]) ∧ Below w.heap.size w w'
theorem cf59 (args : Array Value) (w : World) : (callFunc 59 args).run Try.prog w = .ok (.enter 59 args) w := by kernel_rfl
set_option maxHeartbeats 1600000 in
set_option maxRecDepth 100000 in
theorem SemiP_any (n : Int) (A : Option Addr) (c : Nat) (l : List S43) (w : World) (hr : Kd.C k43 w A l.length l) (hc : l.length ≤ c) :
    Calls Try.prog 26 #[.int .i64 n, .slice A l.length c] w (SemiPost n l w) := by
  have hmf : ∀ (fn : Fn) (first cap : Array Value) (w : World), (Instr.makeFunc fn first cap).run Try.prog w = .ok (.func fn first cap) w := fun _ _ _ _ => rfl
  have HO := Aside0.mk (of_A n A c l w hr hc)
  have HZ := Aside0.mk (ofA_size n l)
  have H1 := Aside0.mk (ofA_one n l)
  clear hr hc
  by_cases he : ofE n l = 0
  · have ok := okt_of he
    have hA : ofA n l = tnN n.toNat (townO l) := by rw [ofA, if_pos he]
    have hK : SemiPost n l w = FirstR w (firstS (fun s => semB n.toNat (townO l) s) n.toNat) := by funext e w'; simp [SemiPost, he]
    obtain ⟨r, hr0⟩ : ∃ r, firstS (fun s => semB n.toNat (townO l) s) n.toNat = r := ⟨_, rfl⟩
    rw [hK, hr0]
    have HR0 := Aside0.mk hr0
    clear hr0
    rw [hA] at HO HZ H1
    rw [he] at HO
    have HK := Aside0.mk ok
    clear he hA ok hK
    go_enter Try.func26, Try.ntmps26
    go_wp2_with fail
    refine HO.out.mono ?_
    rintro e w1 ⟨rfl, hb⟩
    have HB := Aside0.mk hb
    clear hb HO
    have HT : Aside0 (TnN (w1.alloc (.cells (tnN n.toNat (townO l)) 50)) w1.heap.size n.toNat (townO l)) := ⟨Blk.new _ _ _⟩
    go_wp2_with (first | (refine wpList_store_row rfl 50 _ _ rfl w1.heap.size (tnN n.toNat (townO l)) rfl rfl 50 (tnN 0 zero12) (heap_alloc_new w1 _) (by rw [info50, HZ.out]) (by rw [HZ.out]; rfl) H1.out ?_; rw [World.setRow_alloc_new]) | (refine wpList_load_row rfl 50 _ rfl w1.heap.size rfl 50 (tnN n.toNat (townO l)) (0, 0) _ HT.out Try.underlying50 rfl (by rw [info50, HZ.out]) ?_))
    have HB2 := Aside0.mk (below_alloc HB.out (.cells (tnN n.toNat (townO l)) 50))
    have HH : HasC (w1.alloc (.cells (tnN n.toNat (townO l)) 50)) 59 #[.pointer (some ⟨w1.heap.size, 0, none⟩)] (fun s => semB n.toNat (townO l) s) := ⟨cf59, fun s hs w2 hw2 => semi1_any n.toNat (townO l) s w1.heap.size w2 HK.out hs (Blk.later HT.out hw2)⟩
    refine (first_any n.toNat (townO l) 59 #[.pointer (some ⟨w1.heap.size, 0, none⟩)] (fun s => semB n.toNat (townO l) s) _ HK.out HH).mono ?_
    intro e w2 h2
    rw [HR0.out] at h2
    clear HR0 HH
    cases r with
    | none =>
      obtain ⟨rfl, hb2⟩ := h2
      have HB3 := Aside0.mk (below_then HB2.out HB2.out.size hb2)
      clear hb2
      go_wp2_with fail
      go_ret2
      exact ⟨rfl, HB3.out⟩
    | some x =>
      obtain ⟨v, rfl, hr2, hb2⟩ := h2
      have HB3 := Aside0.mk (below_then HB2.out HB2.out.size hb2)
      have HR := Aside0.mk (Kd.R_lower hr2 HB2.out.size)
      clear hb2 hr2
      go_wp2_with fail
      go_ret2
      exact ⟨v, rfl, HR.out, HB3.out⟩
  · have hK : SemiPost n l w = fun e w' => e = .returned (.tuple #[.slice none 0 0, .int .i64 (ofE n l)]) ∧ Below w.heap.size w w' := by funext e w'; simp [SemiPost, he]
    rw [hK]
    have hb : (ofE n l != 0) = true := bne_iff_ne.2 he
    have hb' : (ofE n l == 0) = false := beq_eq_false_iff_ne.2 he
    clear hK he
    generalize ofE n l = er at *
    go_enter Try.func26, Try.ntmps26
    go_wp2_with fail
    refine HO.out.mono ?_
    rintro e w1 ⟨rfl, hb⟩
    have HB := Aside0.mk hb
    clear hb HO
    go_wp2_with (refine wpList_store_row rfl 50 _ _ rfl w1.heap.size (ofA n l) rfl rfl 50 (tnN 0 zero12) (heap_alloc_new w1 _) (by rw [info50, HZ.out]) (by rw [HZ.out]; rfl) H1.out ?_)
    go_ret2
    exact ⟨rfl, by rw [World.setRow_alloc_new]; exact below_alloc HB.out _⟩
theorem progSemi_any (n : Int) (A : Option Addr) (c : Nat) (l : List S43) (w : World) (hr : Kd.C k43 w A l.length l) (hc : l.length ≤ c) :
    Calls Try.prog 26 #[.int .i64 n, .slice A l.length c] w (OutO (listF n l (semO n l)) (errF n l (semO n l)) w) :=
  (SemiP_any n A c l w hr hc).mono fun e w' h => outO_first h
end Go.Proofs.Ytmobefgnkiboaaa.Im

namespace Go.Proofs.Ytmobefgnkiboaaa.Im
open Go.RowKit Go.Proofs.YtmobefgnkiboaaaW.PrintWords Go.Proofs.YtmobefgnkiboaaaW.PrintLast Go.Proofs.YtmobefgnkiboaaaW.PrintMore
set_option linter.unusedVariables false
theorem TnN.set_ {w : World} {g n : Nat} {o : List Nat} (h : TnN w g n o) (i v : Nat) : TnN (w.setCell ⟨g, 1 + i, none⟩ (.int .i64 (v : Nat))) g n (o.set i v) := by
  have h1 := Blk.set_ h (1 + i) (.int .i64 (v : Nat))
  have e : (tnA n (ints o)).setIfInBounds (1 + i) (.int .i64 (v : Nat)) = tnA n (ints (o.set i v)) := by
    rw [Nat.add_comm 1 i, tnA_set]
    simp only [ints, List.map_set]
  rw [e] at h1
  exact h1
end Go.Proofs.Ytmobefgnkiboaaa.Im

namespace Go.Proofs.Ytmobefgnkiboaaa.Im
open Go.RowKit Go.Proofs.YtmobefgnkiboaaaW.PrintWords Go.Proofs.YtmobefgnkiboaaaW.PrintLast Go.Proofs.YtmobefgnkiboaaaW.PrintMore
set_option linter.unusedVariables false
/-- A bound method that is a test of sets. -/
structure HasQ (w : World) (f : FuncId) (x : Value) (has : Nat → Bool) : Prop where
  enter : ∀ (args : Array Value) (w : World), (callFunc f args).run Try.prog w = .ok (.enter f args) w
  calls : ∀ s, s < 4096 → ∀ w', Below w.heap.size w w' → Calls Try.prog f #[x, .int .i64 (s : Nat)] w' (fun e w'' => e = .returned (.bool (has s)) ∧ Below w'.heap.size w' w'')
theorem HasQ.later {w w1 : World} {f : FuncId} {x : Value} {p : Nat → Bool} (h : HasQ w f x p) (hb : Below w.heap.size w w1) : HasQ w1 f x p :=
  ⟨h.enter, fun i hi w' hw => h.calls i hi w' (below_then hb hb.size hw)⟩
/-- What 'first' holds while it tries sets with a bound method. -/
structure FirstQ (gout gh base : Nat) (w0 : World) (f : FuncId) (x : Value) (has : Nat → Bool) (st : List Nat) (w : World) : Prop where
  out : ∃ v, Blk w gout 25 #[v] ∧ Kd.R (Kd.int .i64) 3 w base (fun _ => True) v (ints st)
  bh : Blk w gh 62 #[.func (.func f) #[x] #[]]
  ne : gh ≠ gout
  hc : HasQ w0 f x has
  bel : Below base w0 w
  size : base ≤ w.heap.size
  b1 : base ≤ gout
  b0 : base = w0.heap.size
theorem FirstQ.keep {gout gh base : Nat} {w0 : World} {f : FuncId} {x : Value} {has : Nat → Bool} {st : List Nat} {w w' : World} (h : FirstQ gout gh base w0 f x has st w) (hg : w.grownBy w' none) : FirstQ gout gh base w0 f x has st w' := by
  obtain ⟨⟨v, hb, hr⟩, h2, h3, h4, h5, h6, h7, h8⟩ := h
  exact ⟨⟨v, hb.gb hg (by simp), Kd.R_below hr (below_gb hg)⟩, h2.gb hg (by simp), h3, h4, h5.grown hg h6 (fun k hk => by cases hk), Nat.le_trans h6 hg.size, h7, h8⟩
end Go.Proofs.Ytmobefgnkiboaaa.Im

namespace Go.Proofs.Ytmobefgnkiboaaa.Im
open Go.RowKit Go.Proofs.YtmobefgnkiboaaaW.PrintWords Go.Proofs.YtmobefgnkiboaaaW.PrintLast Go.Proofs.YtmobefgnkiboaaaW.PrintMore
set_option linter.unusedVariables false
theorem addArc_bit (o : List Nat) (p : S43) (a b : Nat) (ho : o.length = 12) (h : p.f0.toNat < 12) : ((addArc o p).getD a 0).testBit b = ((o.getD a 0).testBit b || (p.f0.toNat == a && p.f1.toNat == b)) := by
  unfold addArc
  rw [List.getD_eq_getElem?_getD, List.getElem?_set]
  by_cases e : p.f0.toNat = a
  · rw [if_pos e, if_pos (by rw [ho]; exact h), Option.getD_some, Nat.testBit_or, Nat.testBit_two_pow, e, beq_self_eq_true, Bool.true_and]
    rfl
  · rw [if_neg e, beq_eq_false_iff_ne.2 e, Bool.false_and, Bool.or_false, ← List.getD_eq_getElem?_getD]
theorem foldl_town (a b : Nat) : ∀ (l : List S43) (o : List Nat), o.length = 12 → (∀ p ∈ l, p.f0.toNat < 12) → ((l.foldl addArc o).getD a 0).testBit b = ((o.getD a 0).testBit b || l.any fun p => p.f0.toNat == a && p.f1.toNat == b)
  | [], o, _, _ => by simp
  | p :: l, o, ho, h => by
    rw [List.foldl_cons, foldl_town a b l (addArc o p) (by simp [addArc, ho]) (fun q hq => h q (List.mem_cons_of_mem _ hq)), addArc_bit o p a b ho (h p List.mem_cons_self), List.any_cons, Bool.or_assoc]
theorem zero12_get (i : Nat) : zero12.getD i 0 = 0 := by
  rcases Nat.lt_or_ge i 12 with h | h
  · have : i = 0 ∨ i = 1 ∨ i = 2 ∨ i = 3 ∨ i = 4 ∨ i = 5 ∨ i = 6 ∨ i = 7 ∨ i = 8 ∨ i = 9 ∨ i = 10 ∨ i = 11 := by omega
    rcases this with rfl | rfl | rfl | rfl | rfl | rfl | rfl | rfl | rfl | rfl | rfl | rfl <;> rfl
  · simp [zero12, List.getD_eq_getElem?_getD, h]
theorem town_bit {n : Int} {l : List S43} (he : ofE n l = 0) (a b : Nat) : ((townO l).getD a 0).testBit b = true ↔ ∃ p ∈ l, p.f0 = a ∧ p.f1 = b := by
  obtain ⟨h1, h2, _, h4⟩ := ofE_ok he
  rw [List.all_eq_true] at h4
  have hp : ∀ p ∈ l, 0 ≤ p.f0 ∧ p.f0 < n ∧ 0 ≤ p.f1 ∧ p.f1 < n := fun p hp => by
    have := h4 p hp
    simp only [arcOk, Bool.and_eq_true, decide_eq_true_eq] at this
    omega
  unfold townO
  rw [foldl_town a b l zero12 rfl (fun p h => by have := hp p h; omega), zero12_get, Nat.zero_testBit, Bool.false_or, List.any_eq_true]
  constructor
  · rintro ⟨p, h, hq⟩
    rw [Bool.and_eq_true, beq_iff_eq, beq_iff_eq] at hq
    have := hp p h
    exact ⟨p, h, by omega, by omega⟩
  · rintro ⟨p, h, h5, h6⟩
    refine ⟨p, h, ?_⟩
    rw [h5, h6]; simp
theorem land_ne (x s : Nat) : x &&& s ≠ 0 ↔ ∃ i, x.testBit i = true ∧ s.testBit i = true := by
  rw [Ne, land_zero]
  constructor
  · intro h
    apply Classical.byContradiction
    intro h'
    exact h fun i hi => h' ⟨i, hi⟩
  · rintro ⟨i, hi⟩ h
    exact h i hi
theorem setOf_lt2 {n : Nat} {Q : List Nat} (h : ∀ q ∈ Q, q < n) : setOf (ints Q) < 2 ^ n := by
  apply Nat.lt_pow_two_of_testBit
  intro i hi
  rw [setOf_bit, decide_eq_false_iff_not]
  intro hq
  have := h i hq
  omega
theorem setOf_memL {n t : Nat} (hn : n ≤ 12) (h1 : t < 2 ^ n) : setOf (ints (memL t)) = t := by
  have h12 : (2 : Nat) ^ n ≤ 2 ^ 12 := Nat.pow_le_pow_right (by decide) hn
  apply Nat.eq_of_testBit_eq
  intro i
  rw [setOf_bit, Bool.eq_iff_iff, decide_eq_true_eq, memL_mem]
  constructor
  · exact fun h => h.2
  · intro h
    refine ⟨?_, h⟩
    rcases Nat.lt_or_ge i 12 with h3 | h3
    · exact h3
    · rw [Nat.testBit_lt_two_pow (Nat.lt_of_lt_of_le h1 (Nat.le_trans h12 (Nat.pow_le_pow_right (by decide) h3)))] at h; cases h
end Go.Proofs.Ytmobefgnkiboaaa.Im

namespace Go.Proofs.Ytmobefgnkiboaaa.Im
open Go.RowKit Go.Proofs.YtmobefgnkiboaaaW.PrintWords Go.Proofs.YtmobefgnkiboaaaW.PrintLast Go.Proofs.YtmobefgnkiboaaaW.PrintMore
set_option linter.unusedVariables false
/-- Is there a walk with so many arcs? -/
def wkB (o : List Nat) : Nat → Nat → Nat → Bool
  | 0, a, b => a == b
  | L + 1, a, b => (memL (o.getD a 0)).any fun c => wkB o L c b
/-- The number of arcs of a shortest walk, odd (1) or even (0); 99: none. -/
def dF (o : List Nat) (a b p : Nat) : Nat := ((List.range 99).find? fun L => L % 2 == p && wkB o L a b).getD 99
/-- A way from a person to a last one. -/
structure Wy (o : List Nat) (n z : Nat) (way : List Nat) (last : Nat) : Prop where
  ne : way ≠ []
  hd : way.headD 0 = z
  la : way.getLastD 0 = last
  lt : ∀ x ∈ way, x < n
  nd : way.Nodup
  wk : ∀ x ∈ way, ∃ p q, p + q + 1 = way.length ∧ wkB o p z x = true ∧ wkB o q x last = true
theorem Wy.one (o : List Nat) {n z : Nat} (h : z < n) : Wy o n z [z] z :=
  ⟨by simp, rfl, rfl, fun x hx => by rw [List.mem_singleton.1 hx]; exact h, by simp, fun x hx => by rw [List.mem_singleton.1 hx]; exact ⟨0, 0, rfl, by simp [wkB], by simp [wkB]⟩⟩
end Go.Proofs.Ytmobefgnkiboaaa.Im

namespace Go.Proofs.Ytmobefgnkiboaaa.Im
open Go.RowKit Go.Proofs.YtmobefgnkiboaaaW.PrintWords Go.Proofs.YtmobefgnkiboaaaW.PrintLast Go.Proofs.YtmobefgnkiboaaaW.PrintMore
set_option linter.unusedVariables false
/-- A semikernel of some people. -/
structure SemiK (arc : Nat → Nat → Prop) (W S : List Nat) : Prop where
  ne : S ≠ []
  sub : ∀ a ∈ S, a ∈ W
  ind : ∀ a ∈ S, ∀ b ∈ S, ¬ arc a b
  back : ∀ a ∈ S, ∀ x ∈ W, arc a x → ∃ b ∈ S, arc x b
/-- A kernel of some people. -/
structure KerK (arc : Nat → Nat → Prop) (W K : List Nat) : Prop where
  sub : ∀ a ∈ K, a ∈ W
  ind : ∀ a ∈ K, ∀ b ∈ K, ¬ arc a b
  abs : ∀ x ∈ W, x ∈ K ∨ ∃ b ∈ K, arc x b
theorem filter_less {l : List Nat} {p : Nat → Bool} {x : Nat} (hx : x ∈ l) (hp : p x = false) : (l.filter p).length < l.length := by
  induction l with
  | nil => cases hx
  | cons a l ih =>
    rw [List.filter_cons]
    have hle := List.length_filter_le p l
    rcases List.mem_cons.1 hx with rfl | h
    · rw [hp]; simp; omega
    · have h1 := ih h
      split
      · simp only [List.length_cons]; omega
      · simp only [List.length_cons]; omega
theorem neumann (arc : Nat → Nat → Prop) : ∀ (k : Nat) (W : List Nat), W.length ≤ k → (∀ W' : List Nat, (∀ x ∈ W', x ∈ W) → W' ≠ [] → ∃ S, SemiK arc W' S) → ∃ K, KerK arc W K
  | _, [], _, _ => ⟨[], (fun a h => by cases h), (fun a h => by cases h), (fun x h => by cases h)⟩
  | 0, v :: W, h, _ => by simp at h
  | k + 1, v :: W, h, hs => by
    classical
    obtain ⟨S, h1, h2, h3, h4⟩ := hs (v :: W) (fun x hx => hx) (by simp)
    obtain ⟨a0, ha0⟩ : ∃ a, a ∈ S := by
      cases S with
      | nil => exact absurd rfl h1
      | cons a S => exact ⟨a, List.mem_cons_self⟩
    have hB : ∀ x, x ∈ (v :: W).filter (fun x => decide (x ∉ S ∧ ∀ b ∈ S, ¬ arc x b)) ↔ x ∈ v :: W ∧ x ∉ S ∧ ∀ b ∈ S, ¬ arc x b := fun x => by
      rw [List.mem_filter, decide_eq_true_eq]
    have hlen : ((v :: W).filter (fun x => decide (x ∉ S ∧ ∀ b ∈ S, ¬ arc x b))).length ≤ k := by
      have := filter_less (p := fun x => decide (x ∉ S ∧ ∀ b ∈ S, ¬ arc x b)) (h2 a0 ha0) (decide_eq_false fun h => h.1 ha0)
      omega
    obtain ⟨K, k1, k2, k3⟩ := neumann arc k _ hlen (fun W' hW hne => hs W' (fun x hx => ((hB x).1 (hW x hx)).1) hne)
    refine ⟨S ++ K, fun a ha => ?_, fun a ha b hb => ?_, fun x hx => ?_⟩
    · rcases List.mem_append.1 ha with ha | ha
      · exact h2 a ha
      · exact ((hB a).1 (k1 a ha)).1
    · rcases List.mem_append.1 ha with ha1 | ha1
      · rcases List.mem_append.1 hb with hb1 | hb1
        · exact h3 a ha1 b hb1
        · intro hab
          have hbB := (hB b).1 (k1 b hb1)
          obtain ⟨c, hc, hbc⟩ := h4 a ha1 b hbB.1 hab
          exact hbB.2.2 c hc hbc
      · rcases List.mem_append.1 hb with hb1 | hb1
        · exact ((hB a).1 (k1 a ha1)).2.2 b hb1
        · exact k2 a ha1 b hb1
    · by_cases hxS : x ∈ S
      · exact .inl (List.mem_append_left _ hxS)
      · by_cases hxa : ∃ b ∈ S, arc x b
        · obtain ⟨b, hb, hxb⟩ := hxa
          exact .inr ⟨b, List.mem_append_left _ hb, hxb⟩
        · rcases k3 x ((hB x).2 ⟨hx, hxS, fun b hb hxb => hxa ⟨b, hb, hxb⟩⟩) with h5 | ⟨b, hb, hxb⟩
          · exact .inl (List.mem_append_right _ h5)
          · exact .inr ⟨b, List.mem_append_right _ hb, hxb⟩
/-- Walks. -/
inductive Wk (arc : Nat → Nat → Prop) : Nat → Nat → Nat → Prop
  | nil (a : Nat) : Wk arc 0 a a
  | cons {L a b c : Nat} : arc a b → Wk arc L b c → Wk arc (L + 1) a c
theorem Wk.trans {arc : Nat → Nat → Prop} {L M a b c : Nat} (h : Wk arc L a b) (h' : Wk arc M b c) : Wk arc (L + M) a c := by
  induction h with
  | nil a => rw [Nat.zero_add]; exact h'
  | @cons L a b c hab _ ih => rw [show L + 1 + M = (L + M) + 1 by omega]; exact .cons hab (ih h')
theorem Wk.one {arc : Nat → Nat → Prop} {a b : Nat} (h : arc a b) : Wk arc 1 a b := .cons h (.nil b)
def arcO (o : List Nat) (a b : Nat) : Prop := (o.getD a 0).testBit b = true
theorem arc_in {o : List Nat} {n : Nat} (ok : Okt n o) {a b : Nat} (h : arcO o a b) : b < n := by
  rcases Nat.lt_or_ge b n with h1 | h1
  · exact h1
  · unfold arcO at h
    rw [Nat.testBit_lt_two_pow (Nat.lt_of_lt_of_le (ok.lt a) (Nat.pow_le_pow_right (by decide) h1))] at h; cases h
theorem ker_list {o : List Nat} {n p : Nat} (ok : Okt n o) (hp : p < 2 ^ n) {K : List Nat} (hK : KerK (arcO o) (memL p) K) : inK n o p (setOf (ints K)) = true := by
  have bit : ∀ i, (setOf (ints K)).testBit i = true ↔ i ∈ K := fun i => by rw [setOf_bit, decide_eq_true_eq]
  have hKp : ∀ i ∈ K, p.testBit i = true := fun i hi => ((memL_mem p i).1 (hK.sub i hi)).2
  unfold inK
  rw [Bool.and_eq_true, beq_iff_eq]
  constructor
  · apply Nat.eq_of_testBit_eq
    intro i
    rw [Nat.testBit_and]
    cases hb : (setOf (ints K)).testBit i with
    | false => rfl
    | true => rw [hKp i ((bit i).1 hb)]; rfl
  · unfold kerB AllB
    rw [List.all_eq_true]
    intro a ha
    have ha' := List.mem_range.1 ha
    rw [Bool.and_eq_true]
    constructor
    · unfold indB
      cases hb : (setOf (ints K)).testBit a with
      | false => rfl
      | true =>
        rw [Bool.not_true, Bool.false_or, beq_iff_eq, land_zero]
        rintro i ⟨h4, h5⟩
        exact hK.ind a ((bit a).1 hb) i ((bit i).1 h5) h4
    · unfold absB
      cases hpb : p.testBit a with
      | false => rfl
      | true =>
        cases hb : (setOf (ints K)).testBit a with
        | true => rfl
        | false =>
          rw [Bool.or_eq_true]
          refine .inr ?_
          rw [bne_iff_ne, land_ne]
          rcases hK.abs a ((memL_mem p a).2 ⟨by have := ok.n12; omega, hpb⟩) with h | ⟨b, hbK, hab⟩
          · rw [(bit a).2 h] at hb; cases hb
          · exact ⟨b, hab, (bit b).2 hbK⟩
end Go.Proofs.Ytmobefgnkiboaaa.Im

namespace Go.Proofs.Ytmobefgnkiboaaa.Im
open Go.RowKit Go.Proofs.YtmobefgnkiboaaaW.PrintWords Go.Proofs.YtmobefgnkiboaaaW.PrintLast Go.Proofs.YtmobefgnkiboaaaW.PrintMore
set_option linter.unusedVariables false
def BstP (w : World) (base : Nat) (v : Value) : Option Nat → Prop
  | none => v = .slice none 0 0
  | some b => b < 4096 ∧ b ≠ 0 ∧ Kd.R (Kd.int .i64) 3 w base (fun _ => True) v (ints (memL b))
structure PerfI (gb gt base n : Nat) (o : List Nat) (w0 : World) (st : Option Nat) (w : World) : Prop where
  out : ∃ v, Blk w gb 25 #[v] ∧ BstP w base v st
  bt : TnN w gt n o
  ne : gt ≠ gb
  bel : Below base w0 w
  size : base ≤ w.heap.size
  b1 : base ≤ gb
theorem BstP.below {w w' : World} {base : Nat} {v : Value} : ∀ {st : Option Nat}, BstP w base v st → Below w.heap.size w w' → BstP w' base v st
  | none, h, _ => h
  | some b, ⟨h1, h2, h3⟩, hb => ⟨h1, h2, Kd.R_below h3 hb⟩
theorem PerfI.keep {gb gt base n : Nat} {o : List Nat} {w0 : World} {st : Option Nat} {w w' : World} (h : PerfI gb gt base n o w0 st w) (hg : w.grownBy w' none) : PerfI gb gt base n o w0 st w' := by
  obtain ⟨⟨v, hb, hr⟩, h2, h3, h4, h5, h6⟩ := h
  exact ⟨⟨v, hb.gb hg (by simp), hr.below (below_gb hg)⟩, Blk.gb h2 hg (by simp), h3, h4.grown hg h5 (fun k hk => by cases hk), Nat.le_trans h5 hg.size, h6⟩
end Go.Proofs.Ytmobefgnkiboaaa.Im

namespace Go.Proofs.Ytmobefgnkiboaaa.Im
open Go.RowKit Go.Proofs.YtmobefgnkiboaaaW.PrintWords Go.Proofs.YtmobefgnkiboaaaW.PrintLast Go.Proofs.YtmobefgnkiboaaaW.PrintMore
set_option linter.unusedVariables false
def okT (o T : List Nat) (a b p : Nat) : Prop := (o.getD a 0).testBit b = true → T.getD (2 * b + (1 - p)) 0 ≤ T.getD (2 * a + p) 0 + 1
/-- The table in a block: two cells for each person. -/
def Tb (w : World) (g : Nat) (T : List Nat) : Prop := ∃ ex : List Value, Blk w g 69 (nums .i64 (ints T) ++ ex).toArray
theorem Tb.cell {w : World} {g : Nat} {T : List Nat} (h : Tb w g T) (i : Nat) (hi : i < T.length) : w.cell? ⟨g, i, none⟩ = some (.int .i64 (T.getD i 0 : Nat)) := by
  obtain ⟨ex, hb⟩ := h
  rw [hb.cell]
  have hl : (nums .i64 (ints T)).length = T.length := by rw [nums_length, ints_length]
  rw [List.getElem?_toArray, List.getElem?_append_left (by omega)]
  simp [nums, ints, hi]
theorem Tb.frozen {w : World} {g : Nat} {T : List Nat} (h : Tb w g T) (i : Nat) : w.frozen? ⟨g, i, none⟩ = false := by
  obtain ⟨ex, hb⟩ := h
  exact hb.frozen i
theorem Tb.set_ {w : World} {g : Nat} {T : List Nat} (h : Tb w g T) (i v : Nat) (hi : i < T.length) : Tb (w.setCell ⟨g, i, none⟩ (.int .i64 (v : Nat))) g (T.set i v) := by
  obtain ⟨ex, hb⟩ := h
  refine ⟨ex, ?_⟩
  have := Blk.set_ hb i (.int .i64 (v : Nat))
  have hl : (nums .i64 (ints T)).length = T.length := by rw [nums_length, ints_length]
  have e : ((nums .i64 (ints T) ++ ex).toArray).setIfInBounds i (.int .i64 (v : Nat)) = (nums .i64 (ints (T.set i v)) ++ ex).toArray := by
    rw [List.setIfInBounds_toArray, List.set_append_left _ _ (by omega)]
    simp [nums, ints, List.map_set]
  rw [e] at this
  exact this
theorem Tb.later {w w' : World} {g : Nat} {T : List Nat} (h : Tb w g T) (hb : Below w.heap.size w w') : Tb w' g T := by
  obtain ⟨ex, h⟩ := h
  exact ⟨ex, h.later hb⟩
theorem Tb.lt {w : World} {g : Nat} {T : List Nat} (h : Tb w g T) : g < w.heap.size := by
  obtain ⟨ex, h⟩ := h
  exact h.lt
end Go.Proofs.Ytmobefgnkiboaaa.Im

namespace Go.Proofs.Ytmobefgnkiboaaa.Im
open Go.RowKit Go.Proofs.YtmobefgnkiboaaaW.PrintWords Go.Proofs.YtmobefgnkiboaaaW.PrintLast Go.Proofs.YtmobefgnkiboaaaW.PrintMore
set_option linter.unusedVariables false
/-- What a part of a round has done: something got shorter, or nothing can. -/
def Rnd (o : List Nat) (n : Nat) (T T' : List Nat) (ag : Bool) (done : Nat → Nat → Nat → Prop) : Prop :=
  if ag then T'.sum < T.sum else T' = T ∧ ∀ a b p, a < n → b < n → p < 2 → done a b p → okT o T a b p
theorem Rnd.same {o : List Nat} {n : Nat} {T T' : List Nat} {d : Nat → Nat → Nat → Prop} (h : Rnd o n T T' false d) : T' = T := h.1
end Go.Proofs.Ytmobefgnkiboaaa.Im

namespace Go.Proofs.Ytmobefgnkiboaaa.Im
open Go.RowKit Go.Proofs.YtmobefgnkiboaaaW.PrintWords Go.Proofs.YtmobefgnkiboaaaW.PrintLast Go.Proofs.YtmobefgnkiboaaaW.PrintMore
set_option linter.unusedVariables false
def NoB (o : List Nat) (z last d b : Nat) : Prop := ∀ j, j < b → ((o.getD last 0).testBit j && dF o j z (d % 2) == d) = false
theorem NoB.succ {o : List Nat} {z last d b : Nat} (h : NoB o z last d b) (h1 : ((o.getD last 0).testBit b && dF o b z (d % 2) == d) = false) : NoB o z last d (b + 1) := fun j hj => by
  rcases Nat.lt_or_ge j b with hlt | hge
  · exact h j hlt
  · obtain rfl : j = b := by omega
    exact h1
end Go.Proofs.Ytmobefgnkiboaaa.Im

namespace Go.Proofs.Ytmobefgnkiboaaa.Im
open Go.RowKit Go.Proofs.YtmobefgnkiboaaaW.PrintWords Go.Proofs.YtmobefgnkiboaaaW.PrintLast Go.Proofs.YtmobefgnkiboaaaW.PrintMore
set_option linter.unusedVariables false
theorem bestS_some {S : List Nat} (h : S ≠ []) : ∃ t, bestS S = some t := by
  cases hb : bestS S with
  | some t => exact ⟨t, rfl⟩
  | none => exact absurd ((best_spec S none).2 hb).1 h
theorem kerO_some {n : Int} {l : List S43} (he : ofE n l = 0) (h : kernL n.toNat (townO l) (2 ^ n.toNat - 1) ≠ []) : ∃ r, kerO n l = some r := by
  obtain ⟨t, ht⟩ := bestS_some h
  exact ⟨memL t, by rw [kerO_eq he, ht]; rfl⟩
end Go.Proofs.Ytmobefgnkiboaaa.Im

namespace Go.Proofs.Ytmobefgnkiboaaa.Im
open Go.RowKit Go.Proofs.YtmobefgnkiboaaaW.PrintWords Go.Proofs.YtmobefgnkiboaaaW.PrintLast Go.Proofs.YtmobefgnkiboaaaW.PrintMore
set_option linter.unusedVariables false
def inS (s : Nat) (p : S43) : Bool := s.testBit p.f0.toNat && s.testBit p.f1.toNat
def tabTo (M : List Nat) (k : Nat) : List Nat := (List.range k).foldl (fun T i => T.set (M.getD i 0) i) (List.replicate 30 0)
theorem tabTo_succ (M : List Nat) (k : Nat) : tabTo M (k + 1) = (tabTo M k).set (M.getD k 0) k := by
  unfold tabTo
  rw [List.range_succ, List.foldl_append]
  rfl
theorem tabTo_spec {M : List Nat} (hs : M.Pairwise (· < ·)) (h12 : ∀ x ∈ M, x < 12) : ∀ k, k ≤ M.length → (tabTo M k).length = 30 ∧ ∀ i, i < k → (tabTo M k).getD (M.getD i 0) 0 = i
  | 0, _ => ⟨by simp [tabTo], fun i hi => absurd hi (Nat.not_lt_zero _)⟩
  | k + 1, hk => by
    obtain ⟨h1, h2⟩ := tabTo_spec hs h12 k (by omega)
    have get : ∀ i, i < M.length → M.getD i 0 ∈ M ∧ M.getD i 0 = M[i]?.getD 0 := fun i hi => by
      refine ⟨?_, List.getD_eq_getElem?_getD⟩
      rw [List.getD_eq_getElem?_getD, List.getElem?_eq_getElem hi]
      exact List.getElem_mem hi
    rw [tabTo_succ]
    refine ⟨by rw [List.length_set]; exact h1, fun i hi => ?_⟩
    have hk12 := h12 _ (get k (by omega)).1
    rw [List.getD_eq_getElem?_getD, List.getElem?_set]
    rcases Nat.lt_or_ge i k with h | h
    · have hne : M.getD k 0 ≠ M.getD i 0 := by
        have := List.pairwise_iff_getElem.1 hs i k (by omega) (by omega) h
        simp only [List.getD_eq_getElem?_getD, List.getElem?_eq_getElem (show i < M.length by omega), List.getElem?_eq_getElem (show k < M.length by omega), Option.getD_some]
        omega
      rw [if_neg hne, ← List.getD_eq_getElem?_getD]
      exact h2 i h
    · obtain rfl : i = k := by omega
      rw [if_pos rfl, if_pos (by omega)]
      rfl
def renT (T : List Nat) (p : S43) : S43 := ⟨(T.getD p.f0.toNat 0 : Nat), (T.getD p.f1.toNat 0 : Nat)⟩
def tabS (s : Nat) : List Nat := tabTo (memL s) (memL s).length
def renL (l : List S43) (s : Nat) : List S43 := (l.filter (inS s)).map (renT (tabS s))
theorem Within_l0 {n : Int} {l : List S43} (he : ofE n l = 0) (s : Nat) (hs : s < 4096) : ∀ (d i : Nat) (acc : List S43), i + d = l.length → acc.length ≤ i → Gives (fun k => pomaderef02_Within.l0 k l s acc i) (acc ++ (l.drop i).filter (inS s))
  | 0, i, acc, h, ha => Gives.now fun k => by
    simp only [pomaderef02_Within.l0]
    rw [if_neg (by omega), List.drop_eq_nil_of_le (by omega)]
    simp
  | d + 1, i, acc, h, ha => by
    obtain ⟨h1, h2, h80, h4⟩ := ofE_ok he
    have hi : i < l.length := by omega
    have e : l.drop i = l[i] :: l.drop (i + 1) := by rw [List.drop_eq_getElem_cons hi]
    have er : rd_T43 l (i : Int) = l[i] := by simp [rd_T43, hi]
    rw [List.all_eq_true] at h4
    have hp := h4 l[i] (List.getElem_mem hi)
    simp only [arcOk, Bool.and_eq_true, decide_eq_true_eq] at hp
    obtain ⟨a, ea⟩ : ∃ a : Nat, l[i].f0 = a := ⟨l[i].f0.toNat, by omega⟩
    obtain ⟨b, eb⟩ : ∃ b : Nat, l[i].f1 = b := ⟨l[i].f1.toNat, by omega⟩
    have ein : inS s l[i] = (s.testBit a && s.testBit b) := by unfold inS; rw [ea, eb]; simp
    have eta : (⟨l[i].f0, l[i].f1⟩ : S43) = l[i] := rfl
    rw [e, List.filter_cons, ein]
    cases hb0 : s.testBit a with
    | false =>
      refine (Within_l0 he s hs d (i + 1) acc (by omega) (by omega)).step fun k hk => ?_
      simp only [pomaderef02_Within.l0]
      rw [if_pos (by omega), if_pos (by omega), er, if_pos (by omega), ea, if_neg (by rw [tbit1 _ _ (by omega), hb0]; simp), wr_succ i (by omega)]
      exact hk
    | true =>
      cases hb1 : s.testBit b with
      | false =>
        refine (Within_l0 he s hs d (i + 1) acc (by omega) (by omega)).step fun k hk => ?_
        simp only [pomaderef02_Within.l0]
        rw [if_pos (by omega), if_pos (by omega), er, if_pos (by omega), ea, if_pos (by rw [tbit1 _ _ (by omega), hb0]), if_pos (by omega), eb, if_neg (by rw [tbit1 _ _ (by omega), hb1]; simp), wr_succ i (by omega)]
        exact hk
      | true =>
        refine (Within_l0 he s hs d (i + 1) (acc ++ [l[i]]) (by omega) (by simp; omega)).step fun k hk => ?_
        simp only [pomaderef02_Within.l0]
        rw [if_pos (by omega), if_pos (by omega), er, if_pos (by omega), ea, if_pos (by rw [tbit1 _ _ (by omega), hb0]), if_pos (by omega), eb, if_pos (by rw [tbit1 _ _ (by omega), hb1]), if_pos (by omega), wr_succ i (by omega), ← ea, ← eb, eta]
        rw [List.append_assoc] at hk
        exact hk
theorem Within_g {n : Int} {l : List S43} (he : ofE n l = 0) (s : Nat) (hs : s < 4096) : Gives (fun k => pomaderef02_Within.f k l s) (l.filter (inS s)) := by
  have := Within_l0 he s hs l.length 0 [] (by omega) (Nat.le_refl _)
  rw [List.nil_append, List.drop_zero] at this
  exact this
theorem ren_l1 {n : Int} {l : List S43} (he : ofE n l = 0) (M T : List Nat) (hT : T.length = 30) (I : List S43) (hI : ∀ p ∈ I, p ∈ l) (hIl : I.length ≤ 80) :
    ∀ (d i : Nat) (acc : List S43), i + d = I.length → acc.length ≤ i → Gives (fun k => pomadelaw02_renumbered.l1 k (ints M) (ints T) I acc i) ((M.length : Int), acc ++ (I.drop i).map (renT T))
  | 0, i, acc, h, ha => Gives.now fun k => by
    simp only [pomadelaw02_renumbered.l1]
    rw [if_neg (by omega), List.drop_eq_nil_of_le (by omega), ints_length]
    simp
  | d + 1, i, acc, h, ha => by
    obtain ⟨h1, h2, h80, h4⟩ := ofE_ok he
    have hi : i < I.length := by omega
    have e : I.drop i = I[i] :: I.drop (i + 1) := by rw [List.drop_eq_getElem_cons hi]
    have er : rd_T43 I (i : Int) = I[i] := by simp [rd_T43, hi]
    rw [List.all_eq_true] at h4
    have hp := h4 I[i] (hI _ (List.getElem_mem hi))
    simp only [arcOk, Bool.and_eq_true, decide_eq_true_eq] at hp
    obtain ⟨a, ea⟩ : ∃ a : Nat, I[i].f0 = a := ⟨I[i].f0.toNat, by omega⟩
    obtain ⟨b, eb⟩ : ∃ b : Nat, I[i].f1 = b := ⟨I[i].f1.toNat, by omega⟩
    have ern : renT T I[i] = ⟨(T.getD a 0 : Nat), (T.getD b 0 : Nat)⟩ := by unfold renT; rw [ea, eb]; simp
    have hl := ints_length T
    refine (ren_l1 he M T hT I hI hIl d (i + 1) (acc ++ [renT T I[i]]) (by omega) (by simp; omega)).step fun k hk => ?_
    simp only [pomadelaw02_renumbered.l1]
    rw [if_pos (by omega), if_pos (by omega), er, if_pos (by omega), if_pos (by omega), if_pos (by omega), if_pos (by omega), if_pos (by omega), wr_succ i (by omega), ea, eb, rd_ints, rd_ints, ← ern]
    rw [List.append_assoc] at hk
    rw [e]
    exact hk
theorem ren_l0 {n : Int} {l : List S43} (he : ofE n l = 0) (s : Nat) (hs : s < 4096) : ∀ (d i : Nat), i + d = (memL s).length →
    Gives (fun k => pomadelaw02_renumbered.l0 k l s (ints (memL s)) (ints (tabTo (memL s) i)) i) (((memL s).length : Int), renL l s)
  | 0, i, h => by
    obtain ⟨h1, h2, h80, h4⟩ := ofE_ok he
    obtain rfl : i = (memL s).length := by omega
    have hT := (tabTo_spec (memL_sorted s) (fun x hx => memL_lt hx) _ (Nat.le_refl _)).1
    have hil := ints_length (memL s)
    have hfl := List.length_filter_le (inS s) l
    have h1 := ren_l1 he (memL s) (tabTo (memL s) (memL s).length) hT (l.filter (inS s)) (fun p hp => (List.mem_filter.1 hp).1) (by omega) (l.filter (inS s)).length 0 [] (by omega) (Nat.le_refl _)
    rw [List.nil_append, List.drop_zero] at h1
    refine (Within_g he s hs).step2 h1 fun k hk hk2 => ?_
    simp only [pomadelaw02_renumbered.l0]
    rw [if_neg (by omega), hk, Option.bind_some]
    exact hk2
  | d + 1, i, h => by
    have hml := memL_len s
    have hT := (tabTo_spec (memL_sorted s) (fun x hx => memL_lt hx) i (by omega)).1
    have hil := ints_length (memL s)
    have hit := ints_length (tabTo (memL s) i)
    have hx : (memL s).getD i 0 < 12 := by
      rw [List.getD_eq_getElem?_getD, List.getElem?_eq_getElem (show i < (memL s).length by omega)]
      exact memL_lt (List.getElem_mem _)
    refine (ren_l0 he s hs d (i + 1) (by omega)).step fun k hk => ?_
    simp only [pomadelaw02_renumbered.l0]
    rw [if_pos (by omega), if_pos (by omega), rd_ints, if_pos (by omega), if_pos (by omega), wr_succ i (by omega), Int.toNat_natCast]
    have e : (ints (tabTo (memL s) i)).set ((memL s).getD i 0) (i : Int) = ints (tabTo (memL s) (i + 1)) := by
      rw [tabTo_succ]; simp [ints, List.map_set]
    rw [e]
    exact hk
theorem ren_g {n : Int} {l : List S43} (he : ofE n l = 0) (s : Nat) (hs : s < 4096) : Gives (fun k => pomadelaw02_renumbered.f k l s) (((memL s).length : Int), renL l s) := by
  have h0 := ren_l0 he s hs (memL s).length 0 (by omega)
  refine (members_g s hs).map2 h0 fun k hk hk2 => ?_
  simp only [pomadelaw02_renumbered.f]
  rw [hk, Option.bind_some, if_pos (by decide)]
  exact hk2
theorem ren_any {n : Int} {l : List S43} (he : ofE n l = 0) (s : Nat) (hs : s < 4096) (A : Option Addr) (c : Nat) (w : World) (hr : Kd.C k43 w A l.length l) (hc : l.length ≤ c) :
    Calls Try.prog 30 #[.slice A l.length c, .int .i64 (s : Nat)] w fun e w' => ∃ B q, e = .returned (.tuple #[.int .i64 ((memL s).length : Nat), .slice B (renL l s).length q]) ∧ (renL l s).length ≤ q ∧ Kd.C k43 w' B (renL l s).length (renL l s) ∧ Below w.heap.size w w' := by
  obtain ⟨k0, hk0⟩ := ren_g he s hs
  refine (pomadelaw02_renumbered.calls k0 A c l s _ _ w hr hc (hk0 k0 (Nat.le_refl _))).mono ?_
  rintro e w' ⟨v, rfl, h2, h3⟩
  obtain ⟨B, q, rfl, h4, h5⟩ := Kd.R_reads h2
  exact ⟨B, q, rfl, h4, h5, h3⟩
theorem tabS_get {s i : Nat} (hi : i < (memL s).length) : (tabS s).getD ((memL s).getD i 0) 0 = i := (tabTo_spec (memL_sorted s) (fun x hx => memL_lt hx) _ (Nat.le_refl _)).2 i hi
theorem memL_at {s x : Nat} (hx : x ∈ memL s) : (memL s).getD ((tabS s).getD x 0) 0 = x ∧ (tabS s).getD x 0 < (memL s).length := by
  obtain ⟨i, hi, rfl⟩ := List.getElem_of_mem hx
  have e : (memL s).getD i 0 = (memL s)[i] := by simp [List.getD_eq_getElem?_getD, hi]
  have h := tabS_get hi
  rw [e] at h
  rw [h]
  exact ⟨e, hi⟩
theorem ren_valid {n : Int} {l : List S43} (he : ofE n l = 0) {s : Nat} (hs : s < 2 ^ n.toNat) (h0 : 0 < s) : ofE (memL s).length (renL l s) = 0 := by
  obtain ⟨h1, h2, h80, h4⟩ := ofE_ok he
  have h12 : (2 : Nat) ^ n.toNat ≤ 2 ^ 12 := Nat.pow_le_pow_right (by decide) (by omega)
  have hml := memL_len s
  have hpos := memL_pos (show s < 4096 by omega) h0
  have hlen : (renL l s).length ≤ 80 := by
    unfold renL
    rw [List.length_map]
    have := List.length_filter_le (inS s) l
    omega
  have hall : (renL l s).all (arcOk ((memL s).length : Int)) = true := by
    rw [List.all_eq_true]
    intro q hq
    unfold renL at hq
    rw [List.mem_map] at hq
    obtain ⟨p, hp, rfl⟩ := hq
    rw [List.mem_filter] at hp
    rw [List.all_eq_true] at h4
    have hpo := h4 p hp.1
    simp only [arcOk, Bool.and_eq_true, decide_eq_true_eq] at hpo
    have hin := hp.2
    unfold inS at hin
    rw [Bool.and_eq_true] at hin
    have m0 := (memL_at ((memL_mem s p.f0.toNat).2 ⟨by omega, hin.1⟩)).2
    have m1 := (memL_at ((memL_mem s p.f1.toNat).2 ⟨by omega, hin.2⟩)).2
    unfold renT
    simp only [arcOk, Bool.and_eq_true, decide_eq_true_eq]
    omega
  unfold ofE
  rw [if_neg (by omega), if_neg (by omega), if_pos hall]
theorem ren_arc {n : Int} {l : List S43} (he : ofE n l = 0) {s : Nat} (hs : s < 2 ^ n.toNat) (h0 : 0 < s) {i j : Nat} (hi : i < (memL s).length) (hj : j < (memL s).length) :
    arcO (townO (renL l s)) i j ↔ arcO (townO l) ((memL s).getD i 0) ((memL s).getD j 0) := by
  obtain ⟨h1, h2, h80, h4⟩ := ofE_ok he
  rw [List.all_eq_true] at h4
  have mem : ∀ i, i < (memL s).length → (memL s).getD i 0 ∈ memL s := fun i hi => by
    rw [List.getD_eq_getElem?_getD, List.getElem?_eq_getElem hi]
    exact List.getElem_mem hi
  unfold arcO
  rw [town_bit (ren_valid he hs h0) i j, town_bit he]
  constructor
  · rintro ⟨q, hq, e1, e2⟩
    unfold renL at hq
    rw [List.mem_map] at hq
    obtain ⟨p, hp, rfl⟩ := hq
    rw [List.mem_filter] at hp
    have hpo := h4 p hp.1
    simp only [arcOk, Bool.and_eq_true, decide_eq_true_eq] at hpo
    have hin := hp.2
    unfold inS at hin
    rw [Bool.and_eq_true] at hin
    have m0 := memL_at ((memL_mem s p.f0.toNat).2 ⟨by omega, hin.1⟩)
    have m1 := memL_at ((memL_mem s p.f1.toNat).2 ⟨by omega, hin.2⟩)
    unfold renT at e1 e2
    have e1' : (tabS s).getD p.f0.toNat 0 = i := by simp only at e1; exact_mod_cast e1
    have e2' : (tabS s).getD p.f1.toNat 0 = j := by simp only at e2; exact_mod_cast e2
    rw [e1'] at m0
    rw [e2'] at m1
    exact ⟨p, hp.1, by rw [m0.1]; omega, by rw [m1.1]; omega⟩
  · rintro ⟨p, hp, e1, e2⟩
    refine ⟨renT (tabS s) p, ?_, ?_, ?_⟩
    · unfold renL
      rw [List.mem_map]
      refine ⟨p, List.mem_filter.2 ⟨hp, ?_⟩, rfl⟩
      unfold inS
      rw [e1, e2, Int.toNat_natCast, Int.toNat_natCast, ((memL_mem _ _).1 (mem i hi)).2, ((memL_mem _ _).1 (mem j hj)).2]
      rfl
    · unfold renT
      rw [e1, Int.toNat_natCast, tabS_get hi]
    · unfold renT
      rw [e2, Int.toNat_natCast, tabS_get hj]
theorem semiB_iff {n : Nat} {o : List Nat} {s : Nat} : semiB n o (2 ^ n - 1) s = true ↔ (∀ a, a < n → ∀ b, b < n → s.testBit a = true → arcO o a b → o.getD b 0 &&& s ≠ 0) ∧ 0 < s ∧ ∀ a, a < n → indB o s a = true := by
  unfold semiB
  rw [Bool.and_eq_true, Bool.and_eq_true, List.all_eq_true, List.all_eq_true, decide_eq_true_eq]
  have key : ∀ a b, b < n → (okS o (2 ^ n - 1) s a b = true ↔ (s.testBit a = true → arcO o a b → o.getD b 0 &&& s ≠ 0)) := fun a b hb => by
    unfold okS arcO
    rw [Nat.testBit_and, Nat.testBit_two_pow_sub_one, decide_eq_true hb, Bool.and_true]
    cases s.testBit a <;> cases (o.getD a 0).testBit b <;> simp
  constructor
  · rintro ⟨h1, h2, h3⟩
    refine ⟨fun a ha b hb => ?_, h2, fun a ha => h3 a (List.mem_range.2 ha)⟩
    have := h1 a (List.mem_range.2 ha)
    rw [List.all_eq_true] at this
    exact (key a b hb).1 (this b (List.mem_range.2 hb))
  · rintro ⟨h1, h2, h3⟩
    refine ⟨fun a ha => ?_, h2, fun a ha => h3 a (List.mem_range.1 ha)⟩
    rw [List.all_eq_true]
    intro b hb
    exact (key a b (List.mem_range.1 hb)).2 (h1 a (List.mem_range.1 ha) b (List.mem_range.1 hb))
theorem semO_spec {n : Int} {l : List S43} (he : ofE n l = 0) {r : List Nat} (h : semO n l = some r) : ∃ t, r = memL t ∧ t < 2 ^ n.toNat ∧ semiB n.toNat (townO l) (2 ^ n.toNat - 1) t = true := by
  have ok := okt_of he
  unfold semO at h
  rw [Option.map_eq_some_iff] at h
  obtain ⟨t, ht, rfl⟩ := h
  obtain ⟨h1, h2, _⟩ := (firstS_spec (fun s => semB n.toNat (townO l) s) n.toNat ok.n12 (semB_zero _ _)).1 t ht
  exact ⟨t, rfl, h1, by rw [← semB_eq ok t h1]; exact h2⟩
theorem ker_semi {n : Int} {l : List S43} (he : ofE n l = 0) {r : List Nat} (h : kerO n l = some r) : ∃ t, r = memL t ∧ t < 2 ^ n.toNat ∧ semiB n.toNat (townO l) (2 ^ n.toNat - 1) t = true := by
  have ok := okt_of he
  unfold kerO at h
  rw [Option.map_eq_some_iff] at h
  obtain ⟨t, ht, rfl⟩ := h
  obtain ⟨h1, h2, _⟩ := (firstS_spec (fun s => kerB n.toNat (townO l) s (2 ^ n.toNat - 1)) n.toNat ok.n12 (kerB_zero _ ok.n1)).1 t ht
  refine ⟨t, rfl, h1, semiB_iff.2 ?_⟩
  have hk := (kerB_iff _ _ _).1 h2
  refine ⟨fun a ha b hb hta hab => ?_, ?_, fun a ha => ?_⟩
  · cases htb : t.testBit b with
    | false => exact (hk b hb).2 htb
    | true => exact absurd ⟨hab, htb⟩ ((land_zero _ _).1 ((hk a ha).1 hta) b)
  · rcases Nat.eq_zero_or_pos t with h0 | h0
    · rw [h0, kerB_zero _ ok.n1] at h2; cases h2
    · exact h0
  · unfold indB
    cases hta : t.testBit a with
    | false => rfl
    | true => rw [(hk a ha).1 hta]; rfl
theorem isSemi_any {n : Int} {l : List S43} (he : ofE n l = 0) {t : Nat} (ht : t < 2 ^ n.toNat) (hs : semiB n.toNat (townO l) (2 ^ n.toNat - 1) t = true) (A : Option Addr) (c : Nat) (B : Option Addr) (q : Nat) (w : World) (hr : Kd.C k43 w A l.length l) (hc : l.length ≤ c)
    (hr2 : Kd.C (Kd.int .i64) w B (memL t).length (ints (memL t))) (hq : (memL t).length ≤ q) :
    Calls Try.prog 31 #[.int .i64 n, .slice A l.length c, .int .i64 (2 ^ n.toNat - 1 : Nat), .slice B (memL t).length q] w fun e w' => e = .returned (.bool true) ∧ Below w.heap.size w w' := by
  have hT := Town_g n l
  have hn := (ofE_ok he).1
  have ok := okt_of he
  rw [if_pos he] at hT
  have hml := memL_len t
  have hl := ints_length (memL t)
  have g : Gives (fun k => pomaderef02_IsSemi.f k n l (2 ^ n.toNat - 1 : Nat) (ints (memL t))) true := by
    obtain ⟨m, rfl⟩ : ∃ m : Nat, n = m := ⟨n.toNat, by omega⟩
    rw [Int.toNat_natCast] at *
    have n12 := ok.n12
    have h12 : (2 : Nat) ^ m ≤ 2 ^ 12 := Nat.pow_le_pow_right (by decide) n12
    have h2 := Nat.two_pow_pos m
    have hS := Set_g m (ints (memL t)) n12 (by omega)
    rw [if_pos (asc_of (memL_sorted t) (fun x hx => mem_lt ht hx)), setOf_memL n12 ht] at hS
    have hm := semi_g m (townO l) ok (2 ^ m - 1) t (by omega) (by omega)
    rw [hs] at hm
    refine (hT.both hS).map2 hm fun k hk hk2 => ?_
    cases e1 : pomaderef02_Town.f k m l with
    | none => rw [e1] at hk; cases hk
    | some x =>
      cases e2 : pomaderef02_Set.f k m (ints (memL t)) with
      | none => simp only [e1, e2, Option.bind_some] at hk; cases hk
      | some y =>
        simp only [e1, e2, Option.bind_some, Option.map_some, Option.some.injEq, Prod.mk.injEq] at hk
        obtain ⟨rfl, rfl⟩ := hk
        simp only [pomaderef02_IsSemi.f]
        rw [e1, Option.bind_some, e2, Option.bind_some, if_pos rfl, if_pos rfl, if_pos (by rw [b_and _ _ (by omega) (by omega), Nat.and_two_pow_sub_one_eq_mod, Nat.mod_eq_of_lt ht])]
        show (pomaderef02_semi.f k (ints ((townO l).take (m : Int).toNat)) _ _).bind _ = _
        rw [Int.toNat_natCast, hk2]; rfl
  obtain ⟨k0, hk0⟩ := g
  have h := pomaderef02_IsSemi.calls k0 n A c l (2 ^ n.toNat - 1 : Nat) B q (ints (memL t)) true w hr hc (by rw [hl]; exact hr2) (by rw [hl]; exact hq) (hk0 k0 (Nat.le_refl _))
  rw [hl] at h
  exact h
/-- Neumann-Lara. -/
theorem neumann_town {n : Int} {l : List S43} (he : ofE n l = 0) (h : ∀ s, 0 < s → s < 2 ^ n.toNat → (semO (memL s).length (renL l s)).isSome = true) : ∃ r, kerO n l = some r := by
  have ok := okt_of he
  have h2 := Nat.two_pow_pos n.toNat
  have hfull : 2 ^ n.toNat - 1 < 2 ^ n.toNat := by omega
  obtain ⟨K, hK⟩ := neumann (arcO (townO l)) _ (memL (2 ^ n.toNat - 1)) (Nat.le_refl _) (fun W' hW hne => by
    have hWn : ∀ x ∈ W', x < n.toNat := fun x hx => (memL_all ok.n12).1 (hW x hx)
    obtain ⟨s, hs⟩ : ∃ s, setOf (ints W') = s := ⟨_, rfl⟩
    have bit : ∀ i, s.testBit i = true ↔ i ∈ W' := fun i => by rw [← hs, setOf_bit, decide_eq_true_eq]
    have hsn : s < 2 ^ n.toNat := by rw [← hs]; exact setOf_lt2 hWn
    have h12 : (2 : Nat) ^ n.toNat ≤ 2 ^ 12 := Nat.pow_le_pow_right (by decide) ok.n12
    have hs0 : 0 < s := by
      rcases Nat.eq_zero_or_pos s with h0 | h0
      · cases W' with
        | nil => exact absurd rfl hne
        | cons x W' => have := (bit x).2 List.mem_cons_self; rw [h0, Nat.zero_testBit] at this; cases this
      · exact h0
    have hMW : ∀ x, x ∈ memL s ↔ x ∈ W' := fun x => by
      rw [memL_mem, bit]
      exact ⟨fun h => h.2, fun h => ⟨by have := hWn x h; have := ok.n12; omega, h⟩⟩
    have hv := ren_valid he hsn hs0
    cases hr : semO (memL s).length (renL l s) with
    | none => have := h s hs0 hsn; rw [hr] at this; cases this
    | some r =>
      obtain ⟨t, _, ht, hsem⟩ := semO_spec hv hr
      rw [Int.toNat_natCast] at ht hsem
      obtain ⟨b1, b2, b3⟩ := semiB_iff.1 hsem
      have ok' := okt_of hv
      rw [Int.toNat_natCast] at ok'
      have mem : ∀ i, i < (memL s).length → (memL s).getD i 0 ∈ W' := fun i hi => by
        refine (hMW _).1 ?_
        rw [List.getD_eq_getElem?_getD, List.getElem?_eq_getElem hi]
        exact List.getElem_mem hi
      have hti : ∀ i, i ∈ memL t → i < (memL s).length := fun i hi => mem_lt ht hi
      refine ⟨(memL t).map fun i => (memL s).getD i 0, ?_, fun a ha => ?_, fun a ha b hb hab => ?_, fun a ha x hx hax => ?_⟩
      · intro hnil
        rw [List.map_eq_nil_iff] at hnil
        have ht12 : (2 : Nat) ^ (memL s).length ≤ 2 ^ 12 := Nat.pow_le_pow_right (by decide) (memL_len s)
        have := memL_nil (by omega) hnil
        omega
      · rw [List.mem_map] at ha
        obtain ⟨i, hi, rfl⟩ := ha
        exact mem i (hti i hi)
      · rw [List.mem_map] at ha hb
        obtain ⟨i, hi, rfl⟩ := ha
        obtain ⟨j, hj, rfl⟩ := hb
        have harc := (ren_arc he hsn hs0 (hti i hi) (hti j hj)).2 hab
        have hind := b3 i (hti i hi)
        unfold indB at hind
        rw [((memL_mem t i).1 hi).2, Bool.not_true, Bool.false_or, beq_iff_eq, land_zero] at hind
        exact hind j ⟨harc, ((memL_mem t j).1 hj).2⟩
      · rw [List.mem_map] at ha
        obtain ⟨i, hi, rfl⟩ := ha
        have hxM := memL_at ((hMW x).2 hx)
        generalize (tabS s).getD x 0 = j at hxM
        obtain ⟨rfl, hj⟩ := hxM
        have harc := (ren_arc he hsn hs0 (hti i hi) hj).2 hax
        have hne' := b1 i (hti i hi) j hj ((memL_mem t i).1 hi).2 harc
        rw [land_ne] at hne'
        obtain ⟨k, hk1, hk2⟩ := hne'
        have hk : k < (memL s).length := arc_in ok' hk1
        refine ⟨(memL s).getD k 0, List.mem_map.2 ⟨k, (memL_mem t k).2 ⟨by have := memL_len s; omega, hk2⟩, rfl⟩, ?_⟩
        exact (ren_arc he hsn hs0 hj hk).1 hk1)
  have hk := ker_list ok hfull hK
  refine kerO_some he fun hn => ?_
  unfold kernL at hn
  rw [List.filter_eq_nil_iff] at hn
  refine hn (setOf (ints K)) ?_ hk
  unfold inK at hk
  rw [Bool.and_eq_true, beq_iff_eq] at hk
  have : setOf (ints K) ≤ 2 ^ n.toNat - 1 := by rw [← hk.1]; exact Nat.and_le_right
  rw [List.mem_range'_1]; omega
/-- The first sets all have semikernels. -/
def semAll (l : List S43) (k : Nat) : Prop := ∀ s, 0 < s → s < k → (semO (memL s).length (renL l s)).isSome = true
end Go.Proofs.Ytmobefgnkiboaaa.Im

namespace Go.Proofs.Ytmobefgnkiboaaa.Im
open Go.RowKit Go.Proofs.YtmobefgnkiboaaaW.PrintWords Go.Proofs.YtmobefgnkiboaaaW.PrintLast Go.Proofs.YtmobefgnkiboaaaW.PrintMore
set_option linter.unusedVariables false
set_option maxHeartbeats 9600000 in
set_option maxRecDepth 100000 in
theorem law7_any (n : Int) (A : Option Addr) (c : Nat) (l : List S43) (w : World) (hr : Kd.C k43 w A l.length l) (hc : l.length ≤ c) :
    Calls Try.prog 7 #[.int .i64 n, .slice A l.length c] w fun e w' => e = .returned (.bool true) ∧ Below w.heap.size w w' := by
  have HF := Aside0.mk (few_nil A c l w hr hc)
  have HR := Aside0.mk hr
  clear hr
  by_cases hf : l.length ≤ 150
  · rw [decide_eq_true hf] at HF
    have HV := Aside0.mk (fun (w : World) h1 => valid_any n A c l w h1 hc)
    by_cases he : ofE n l = 0
    · have hev : (ofE n l == 0) = true := by rw [he]; rfl
      rw [hev] at HV
      clear hev hf
      by_cases hn7 : 7 < n
      · clear he
        go_enter Try.func7, Try.ntmps7
        go_wp2_with fail
        refine (HF.out).mono ?_
        rintro e w1 ⟨rfl, hb1⟩
        have HB1 := Aside0.mk (hb1)
        have HR_1 := Aside0.mk (Kd.C_below HR.out hb1)
        clear hb1
        go_wp2_with fail
        refine (HV.out _ HR_1.out).mono ?_
        rintro e w2 ⟨rfl, hb2⟩
        have HB2 := Aside0.mk (below_then HB1.out HB1.out.size hb2)
        have HR_2 := Aside0.mk (Kd.C_below HR_1.out hb2)
        clear hb2
        go_wp2_with fail
        refine (alive_any _).mono ?_
        rintro e w3 ⟨rfl, hb3⟩
        have HB3 := Aside0.mk (below_then HB2.out HB2.out.size hb3)
        have HR_3 := Aside0.mk (Kd.C_below HR_2.out hb3)
        clear hb3
        go_wp2_with fail
        go_ret
        exact ⟨rfl, HB3.out⟩
      · have hnn := (ofE_ok he).1
        have ok := okt_of he
        obtain ⟨m, rfl⟩ : ∃ m : Nat, n = m := ⟨n.toNat, by omega⟩
        have h12 : (2 : Nat) ^ m ≤ 2 ^ 12 := Nat.pow_le_pow_right (by decide) (by omega)
        have hP1 : 1 ≤ 2 ^ m := Nat.two_pow_pos m
        have ew2 : wrap64 (2 ^ m) = ((2 ^ m : Nat) : Int) := wr_pow m (by omega)
        have HK := Aside0.mk (fun (w : World) h1 => progKernel_any m A c l w h1 hc)
        unfold listF errF at HK
        simp only [he, if_true] at HK
        have HRen := Aside0.mk (fun (s : Nat) hs (A : Option Addr) (c : Nat) (w : World) h1 h2 => ren_any he s hs A c w h1 h2)
        have HSem : Aside0 (∀ k, 1 ≤ k → k < 2 ^ m → (semO (memL k).length (renL l k) = none → ∀ (B : Option Addr) (q : Nat) (w : World), Kd.C k43 w B (renL l k).length (renL l k) → (renL l k).length ≤ q → Calls Try.prog 26 #[.int .i64 ((memL k).length : Nat), .slice B (renL l k).length q] w (OutO [] 10 w)) ∧
            (∀ r, semO (memL k).length (renL l k) = some r → ∃ t, r = memL t ∧ (∀ (B : Option Addr) (q : Nat) (w : World), Kd.C k43 w B (renL l k).length (renL l k) → (renL l k).length ≤ q → Calls Try.prog 26 #[.int .i64 ((memL k).length : Nat), .slice B (renL l k).length q] w (OutO (memL t) 0 w)) ∧
              ∀ (B : Option Addr) (q : Nat) (D : Option Addr) (d : Nat) (w : World), Kd.C k43 w B (renL l k).length (renL l k) → (renL l k).length ≤ q → Kd.C (Kd.int .i64) w D (memL t).length (ints (memL t)) → (memL t).length ≤ d →
                Calls Try.prog 31 #[.int .i64 ((memL k).length : Nat), .slice B (renL l k).length q, .int .i64 (2 ^ (memL k).length - 1 : Nat), .slice D (memL t).length d] w fun e w' => e = .returned (.bool true) ∧ Below w.heap.size w w')) := ⟨fun k h1 h2 => by
          have hv := ren_valid he (show k < 2 ^ (m : Int).toNat from h2) (by omega)
          refine ⟨fun hs B q w h3 h4 => ?_, fun r hs => ?_⟩
          · have h := progSemi_any (memL k).length B q (renL l k) w h3 h4
            unfold listF errF at h
            simp only [hv, if_true, hs, Option.getD_none, Option.isSome_none, Bool.false_eq_true, if_false] at h
            exact h
          · obtain ⟨t, rfl, ht, hsem⟩ := semO_spec hv hs
            refine ⟨t, rfl, fun B q w h3 h4 => ?_, fun B q D d w h3 h4 h5 h6 => ?_⟩
            · have h := progSemi_any (memL k).length B q (renL l k) w h3 h4
              unfold listF errF at h
              simp only [hv, if_true, hs, Option.getD_some, Option.isSome_some] at h
              exact h
            · exact isSemi_any hv ht hsem B q D d w h3 h4 h5 h6⟩
        cases hk : kerO m l with
        | none =>
          have HNo : Aside0 (¬ semAll l (2 ^ m)) := ⟨fun h => by
            obtain ⟨r, hr⟩ := neumann_town he (fun s h1 h2 => h s h1 h2)
            rw [hk] at hr; cases hr⟩
          rw [hk] at HK
          simp only [Option.getD_none, Option.isSome_none, Bool.false_eq_true, if_false] at HK
          clear hk he ok
          generalize 2 ^ m = P at *
          go_enter Try.func7, Try.ntmps7
          go_wp2_with fail
          refine (HF.out).mono ?_
          rintro e w1 ⟨rfl, hb1⟩
          have HB1 := Aside0.mk (hb1)
          have HR_1 := Aside0.mk (Kd.C_below HR.out hb1)
          clear hb1
          go_wp2_with fail
          refine (HV.out _ HR_1.out).mono ?_
          rintro e w2 ⟨rfl, hb2⟩
          have HB2 := Aside0.mk (below_then HB1.out HB1.out.size hb2)
          have HR_2 := Aside0.mk (Kd.C_below HR_1.out hb2)
          clear hb2
          go_wp2_with fail
          obtain ⟨W, rfl⟩ : ∃ W : World, W = w2 := ⟨_, rfl⟩
          go_loopw [5, 6] (fun v5 v6 wr => ∃ (k : Nat) (b : Bool), 1 ≤ k ∧ k ≤ P ∧ v6 = .int .i64 (k : Int) ∧ v5 = .bool b ∧ Aside0 (b = true → semAll l k) ∧ Aside0 (Below W.heap.size W wr)) (fun _ v _ => P - (intOf v).toNat)
          case atStart => exact ⟨1, true, Nat.le_refl _, hP1, rfl, rfl, ⟨fun _ s h1 h2 => by omega⟩, ⟨Below.refl _ _⟩⟩
          case round =>
            obtain ⟨k, b, hk1, hk, rfl, rfl, HAl, HBr⟩ := hrel
            by_cases hkl : k < P
            · have hd : decide (k < P) = true := decide_eq_true hkl
              cases b with
              | false =>
                have HBW := Aside0.mk (below_then HB2.out HB2.out.size HBr.out)
                have HRX := Aside0.mk (Kd.C_below HR_2.out HBr.out)
                clear HAl
                go_wp2_with fail
                refine (HK.out _ HRX.out).mono ?_
                rintro e w31 ⟨A31, c31, rfl, hc31, hC31, hb31⟩
                have HB31 := Aside0.mk (below_then HBW.out HBW.out.size hb31)
                have HR_31 := Aside0.mk (Kd.C_below HRX.out hb31)
                have KQ_31 := Aside0.mk (hC31)
                clear hb31
                clear hC31
                go_wp2_with fail
                refine (alive_any _).mono ?_
                rintro e w32 ⟨rfl, hb32⟩
                have HB32 := Aside0.mk (below_then HB31.out HB31.out.size hb32)
                have HR_32 := Aside0.mk (Kd.C_below HR_31.out hb32)
                have KQ_32 := Aside0.mk (Kd.C_below KQ_31.out hb32)
                clear hb32
                go_wp2_with fail
                go_ret
                exact ⟨rfl, HB32.out⟩
              | true =>
                have HRk := Aside0.mk (HRen.out k (by omega) A c wr (Kd.C_below HR_2.out HBr.out) hc)
                have HSe := Aside0.mk (HSem.out k hk1 hkl)
                have hmk := memL_len k
                cases hs : semO (memL k).length (renL l k) with
                | none =>
                  have hse := HSe.out.1 hs
                  have HS1 := Aside0.mk hse
                  clear hse HSe hs
                  generalize (memL k).length = mk at *
                  generalize renL l k = rl at *
                  go_wp2_with fail
                  refine HRk.out.mono ?_
                  rintro e w3 ⟨B, q, rfl, hq, hCB, hb3⟩
                  have HB3 := Aside0.mk (below_then HBr.out HBr.out.size hb3)
                  have HCB := Aside0.mk hCB
                  clear hCB hb3
                  go_wp2_with fail
                  refine (HS1.out B q _ HCB.out hq).mono ?_
                  rintro e w4 ⟨A4, c4, rfl, hc4, hC4, hb4⟩
                  have HB4 := Aside0.mk (below_then HB3.out HB3.out.size hb4)
                  clear hC4 hb4
                  go_wp2_with fail
                  go_roundw
                  case rel => exact ⟨k + 1, false, by omega, by omega, by go_num, rfl, ⟨fun h => Bool.noConfusion h⟩, HB4⟩
                  case measure => simp [intOf]; try omega
                | some r =>
                  obtain ⟨t, hrt, hse, his⟩ := HSe.out.2 r hs
                  subst hrt
                  have HS1 := Aside0.mk hse
                  have HIs := Aside0.mk his
                  have HAl2 : Aside0 (semAll l (k + 1)) := ⟨fun s h1 h2 => by
                    rcases Nat.lt_or_ge s k with h | h
                    · exact HAl.out rfl s h1 h
                    · obtain rfl : s = k := by omega
                      rw [hs]; rfl⟩
                  clear hse his HSe hs
                  have hpk := Nat.two_pow_pos (memL k).length
                  have hpk2 : (2 : Nat) ^ (memL k).length ≤ 2 ^ 12 := Nat.pow_le_pow_right (by decide) hmk
                  have ewk : wrap64 (2 ^ (memL k).length) = ((2 ^ (memL k).length : Nat) : Int) := wr_pow _ (by omega)
                  generalize (memL k).length = mk at *
                  generalize renL l k = rl at *
                  generalize memL t = M at *
                  generalize 2 ^ mk = Pk at *
                  have eP : ((Pk - 1 : Nat) : Int) = (Pk : Int) - 1 := by omega
                  have ew3 : wrap64 ((Pk : Int) - 1) = (Pk : Int) - 1 := by unfold wrap64; omega
                  rw [eP] at HIs
                  clear eP
                  go_wp2_with fail
                  refine HRk.out.mono ?_
                  rintro e w3 ⟨B, q, rfl, hq, hCB, hb3⟩
                  have HB3 := Aside0.mk (below_then HBr.out HBr.out.size hb3)
                  have HCB := Aside0.mk hCB
                  clear hCB hb3
                  go_wp2_with fail
                  refine (HS1.out B q _ HCB.out hq).mono ?_
                  rintro e w4 ⟨A4, c4, rfl, hc4, hC4, hb4⟩
                  have HB4 := Aside0.mk (below_then HB3.out HB3.out.size hb4)
                  have HI4 := Aside0.mk (HIs.out B q A4 c4 w4 (Kd.C_below HCB.out hb4) hq hC4 hc4)
                  clear hC4 hb4
                  go_wp2_with fail
                  refine HI4.out.mono ?_
                  rintro e w5 ⟨rfl, hb5⟩
                  have HB5 := Aside0.mk (below_then HB4.out HB4.out.size hb5)
                  clear hb5
                  go_wp2_with fail
                  go_roundw
                  case rel => exact ⟨k + 1, true, by omega, by omega, by go_num, rfl, ⟨fun _ => HAl2.out⟩, HB5⟩
                  case measure => simp [intOf]; try omega
            · obtain rfl : P = k := by omega
              have hd : decide (P < P) = false := decide_eq_false (Nat.lt_irrefl _)
              have HBW := Aside0.mk (below_then HB2.out HB2.out.size HBr.out)
              have HRX := Aside0.mk (Kd.C_below HR_2.out HBr.out)
              cases b with
              | true => exact absurd (HAl.out rfl) HNo.out
              | false =>
                clear HAl
                go_wp2_with fail
                refine (HK.out _ HRX.out).mono ?_
                rintro e w31 ⟨A31, c31, rfl, hc31, hC31, hb31⟩
                have HB31 := Aside0.mk (below_then HBW.out HBW.out.size hb31)
                have HR_31 := Aside0.mk (Kd.C_below HRX.out hb31)
                have KQ_31 := Aside0.mk (hC31)
                clear hb31
                clear hC31
                go_wp2_with fail
                refine (alive_any _).mono ?_
                rintro e w32 ⟨rfl, hb32⟩
                have HB32 := Aside0.mk (below_then HB31.out HB31.out.size hb32)
                have HR_32 := Aside0.mk (Kd.C_below HR_31.out hb32)
                have KQ_32 := Aside0.mk (Kd.C_below KQ_31.out hb32)
                clear hb32
                go_wp2_with fail
                go_ret
                exact ⟨rfl, HB32.out⟩
        | some rk =>
          obtain ⟨t0, hrk, ht0, hs0⟩ := ker_semi he hk
          have HIk := Aside0.mk (fun (D : Option Addr) (d : Nat) (w : World) h1 h2 h3 => isSemi_any he ht0 hs0 A c D d w h1 hc h2 h3)
          rw [← hrk] at HIk
          rw [hk] at HK
          simp only [Option.getD_some, Option.isSome_some, if_true] at HK
          rw [Int.toNat_natCast] at HIk
          clear hk he ok hrk ht0 hs0
          generalize 2 ^ m = P at *
          have eP0 : ((P - 1 : Nat) : Int) = (P : Int) - 1 := by omega
          have ew30 : wrap64 ((P : Int) - 1) = (P : Int) - 1 := by unfold wrap64; omega
          rw [eP0] at HIk
          clear eP0
          go_enter Try.func7, Try.ntmps7
          go_wp2_with fail
          refine (HF.out).mono ?_
          rintro e w1 ⟨rfl, hb1⟩
          have HB1 := Aside0.mk (hb1)
          have HR_1 := Aside0.mk (Kd.C_below HR.out hb1)
          clear hb1
          go_wp2_with fail
          refine (HV.out _ HR_1.out).mono ?_
          rintro e w2 ⟨rfl, hb2⟩
          have HB2 := Aside0.mk (below_then HB1.out HB1.out.size hb2)
          have HR_2 := Aside0.mk (Kd.C_below HR_1.out hb2)
          clear hb2
          go_wp2_with fail
          obtain ⟨W, rfl⟩ : ∃ W : World, W = w2 := ⟨_, rfl⟩
          go_loopw [5, 6] (fun v5 v6 wr => ∃ (k : Nat) (b : Bool), 1 ≤ k ∧ k ≤ P ∧ v6 = .int .i64 (k : Int) ∧ v5 = .bool b ∧ Aside0 (b = true → semAll l k) ∧ Aside0 (Below W.heap.size W wr)) (fun _ v _ => P - (intOf v).toNat)
          case atStart => exact ⟨1, true, Nat.le_refl _, hP1, rfl, rfl, ⟨fun _ s h1 h2 => by omega⟩, ⟨Below.refl _ _⟩⟩
          case round =>
            obtain ⟨k, b, hk1, hk, rfl, rfl, HAl, HBr⟩ := hrel
            by_cases hkl : k < P
            · have hd : decide (k < P) = true := decide_eq_true hkl
              cases b with
              | false =>
                have HBW := Aside0.mk (below_then HB2.out HB2.out.size HBr.out)
                have HRX := Aside0.mk (Kd.C_below HR_2.out HBr.out)
                clear HAl
                go_wp2_with fail
                refine (HK.out _ HRX.out).mono ?_
                rintro e w31 ⟨A31, c31, rfl, hc31, hC31, hb31⟩
                have HB31 := Aside0.mk (below_then HBW.out HBW.out.size hb31)
                have HR_31 := Aside0.mk (Kd.C_below HRX.out hb31)
                have KQ_31 := Aside0.mk (hC31)
                clear hb31
                clear hC31
                go_wp2_with fail
                refine (HIk.out A31 c31 _ HR_31.out KQ_31.out hc31).mono ?_
                rintro e w32 ⟨rfl, hb32⟩
                have HB32 := Aside0.mk (below_then HB31.out HB31.out.size hb32)
                have HR_32 := Aside0.mk (Kd.C_below HR_31.out hb32)
                have KQ_32 := Aside0.mk (Kd.C_below KQ_31.out hb32)
                clear hb32
                go_wp2_with fail
                refine (alive_any _).mono ?_
                rintro e w33 ⟨rfl, hb33⟩
                have HB33 := Aside0.mk (below_then HB32.out HB32.out.size hb33)
                have HR_33 := Aside0.mk (Kd.C_below HR_32.out hb33)
                have KQ_33 := Aside0.mk (Kd.C_below KQ_32.out hb33)
                clear hb33
                go_wp2_with fail
                go_ret
                exact ⟨rfl, HB33.out⟩
              | true =>
                have HRk := Aside0.mk (HRen.out k (by omega) A c wr (Kd.C_below HR_2.out HBr.out) hc)
                have HSe := Aside0.mk (HSem.out k hk1 hkl)
                have hmk := memL_len k
                cases hs : semO (memL k).length (renL l k) with
                | none =>
                  have hse := HSe.out.1 hs
                  have HS1 := Aside0.mk hse
                  clear hse HSe hs
                  generalize (memL k).length = mk at *
                  generalize renL l k = rl at *
                  go_wp2_with fail
                  refine HRk.out.mono ?_
                  rintro e w3 ⟨B, q, rfl, hq, hCB, hb3⟩
                  have HB3 := Aside0.mk (below_then HBr.out HBr.out.size hb3)
                  have HCB := Aside0.mk hCB
                  clear hCB hb3
                  go_wp2_with fail
                  refine (HS1.out B q _ HCB.out hq).mono ?_
                  rintro e w4 ⟨A4, c4, rfl, hc4, hC4, hb4⟩
                  have HB4 := Aside0.mk (below_then HB3.out HB3.out.size hb4)
                  clear hC4 hb4
                  go_wp2_with fail
                  go_roundw
                  case rel => exact ⟨k + 1, false, by omega, by omega, by go_num, rfl, ⟨fun h => Bool.noConfusion h⟩, HB4⟩
                  case measure => simp [intOf]; try omega
                | some r =>
                  obtain ⟨t, hrt, hse, his⟩ := HSe.out.2 r hs
                  subst hrt
                  have HS1 := Aside0.mk hse
                  have HIs := Aside0.mk his
                  have HAl2 : Aside0 (semAll l (k + 1)) := ⟨fun s h1 h2 => by
                    rcases Nat.lt_or_ge s k with h | h
                    · exact HAl.out rfl s h1 h
                    · obtain rfl : s = k := by omega
                      rw [hs]; rfl⟩
                  clear hse his HSe hs
                  have hpk := Nat.two_pow_pos (memL k).length
                  have hpk2 : (2 : Nat) ^ (memL k).length ≤ 2 ^ 12 := Nat.pow_le_pow_right (by decide) hmk
                  have ewk : wrap64 (2 ^ (memL k).length) = ((2 ^ (memL k).length : Nat) : Int) := wr_pow _ (by omega)
                  generalize (memL k).length = mk at *
                  generalize renL l k = rl at *
                  generalize memL t = M at *
                  generalize 2 ^ mk = Pk at *
                  have eP : ((Pk - 1 : Nat) : Int) = (Pk : Int) - 1 := by omega
                  have ew3 : wrap64 ((Pk : Int) - 1) = (Pk : Int) - 1 := by unfold wrap64; omega
                  rw [eP] at HIs
                  clear eP
                  go_wp2_with fail
                  refine HRk.out.mono ?_
                  rintro e w3 ⟨B, q, rfl, hq, hCB, hb3⟩
                  have HB3 := Aside0.mk (below_then HBr.out HBr.out.size hb3)
                  have HCB := Aside0.mk hCB
                  clear hCB hb3
                  go_wp2_with fail
                  refine (HS1.out B q _ HCB.out hq).mono ?_
                  rintro e w4 ⟨A4, c4, rfl, hc4, hC4, hb4⟩
                  have HB4 := Aside0.mk (below_then HB3.out HB3.out.size hb4)
                  have HI4 := Aside0.mk (HIs.out B q A4 c4 w4 (Kd.C_below HCB.out hb4) hq hC4 hc4)
                  clear hC4 hb4
                  go_wp2_with fail
                  refine HI4.out.mono ?_
                  rintro e w5 ⟨rfl, hb5⟩
                  have HB5 := Aside0.mk (below_then HB4.out HB4.out.size hb5)
                  clear hb5
                  go_wp2_with fail
                  go_roundw
                  case rel => exact ⟨k + 1, true, by omega, by omega, by go_num, rfl, ⟨fun _ => HAl2.out⟩, HB5⟩
                  case measure => simp [intOf]; try omega
            · obtain rfl : P = k := by omega
              have hd : decide (P < P) = false := decide_eq_false (Nat.lt_irrefl _)
              have HBW := Aside0.mk (below_then HB2.out HB2.out.size HBr.out)
              have HRX := Aside0.mk (Kd.C_below HR_2.out HBr.out)
              clear HAl
              cases b with
              | false =>
                go_wp2_with fail
                refine (HK.out _ HRX.out).mono ?_
                rintro e w31 ⟨A31, c31, rfl, hc31, hC31, hb31⟩
                have HB31 := Aside0.mk (below_then HBW.out HBW.out.size hb31)
                have HR_31 := Aside0.mk (Kd.C_below HRX.out hb31)
                have KQ_31 := Aside0.mk (hC31)
                clear hb31
                clear hC31
                go_wp2_with fail
                refine (HIk.out A31 c31 _ HR_31.out KQ_31.out hc31).mono ?_
                rintro e w32 ⟨rfl, hb32⟩
                have HB32 := Aside0.mk (below_then HB31.out HB31.out.size hb32)
                have HR_32 := Aside0.mk (Kd.C_below HR_31.out hb32)
                have KQ_32 := Aside0.mk (Kd.C_below KQ_31.out hb32)
                clear hb32
                go_wp2_with fail
                refine (alive_any _).mono ?_
                rintro e w33 ⟨rfl, hb33⟩
                have HB33 := Aside0.mk (below_then HB32.out HB32.out.size hb33)
                have HR_33 := Aside0.mk (Kd.C_below HR_32.out hb33)
                have KQ_33 := Aside0.mk (Kd.C_below KQ_32.out hb33)
                clear hb33
                go_wp2_with fail
                go_ret
                exact ⟨rfl, HB33.out⟩
              | true =>
                go_wp2_with fail
                refine (HK.out _ HRX.out).mono ?_
                rintro e w31 ⟨A31, c31, rfl, hc31, hC31, hb31⟩
                have HB31 := Aside0.mk (below_then HBW.out HBW.out.size hb31)
                have HR_31 := Aside0.mk (Kd.C_below HRX.out hb31)
                have KQ_31 := Aside0.mk (hC31)
                clear hb31
                clear hC31
                go_wp2_with fail
                refine (HIk.out A31 c31 _ HR_31.out KQ_31.out hc31).mono ?_
                rintro e w32 ⟨rfl, hb32⟩
                have HB32 := Aside0.mk (below_then HB31.out HB31.out.size hb32)
                have HR_32 := Aside0.mk (Kd.C_below HR_31.out hb32)
                have KQ_32 := Aside0.mk (Kd.C_below KQ_31.out hb32)
                clear hb32
                go_wp2_with fail
                refine (alive_any _).mono ?_
                rintro e w33 ⟨rfl, hb33⟩
                have HB33 := Aside0.mk (below_then HB32.out HB32.out.size hb33)
                have HR_33 := Aside0.mk (Kd.C_below HR_32.out hb33)
                have KQ_33 := Aside0.mk (Kd.C_below KQ_32.out hb33)
                clear hb33
                go_wp2_with fail
                go_ret
                exact ⟨rfl, HB33.out⟩
    · have hev : (ofE n l == 0) = false := beq_eq_false_iff_ne.2 he
      rw [hev] at HV
      clear he hev hf
      go_enter Try.func7, Try.ntmps7
      go_wp2_with fail
      refine (HF.out).mono ?_
      rintro e w1 ⟨rfl, hb1⟩
      have HB1 := Aside0.mk (hb1)
      have HR_1 := Aside0.mk (Kd.C_below HR.out hb1)
      clear hb1
      go_wp2_with fail
      refine (HV.out _ HR_1.out).mono ?_
      rintro e w2 ⟨rfl, hb2⟩
      have HB2 := Aside0.mk (below_then HB1.out HB1.out.size hb2)
      have HR_2 := Aside0.mk (Kd.C_below HR_1.out hb2)
      clear hb2
      go_wp2_with fail
      refine (alive_any _).mono ?_
      rintro e w3 ⟨rfl, hb3⟩
      have HB3 := Aside0.mk (below_then HB2.out HB2.out.size hb3)
      have HR_3 := Aside0.mk (Kd.C_below HR_2.out hb3)
      clear hb3
      go_wp2_with fail
      go_ret
      exact ⟨rfl, HB3.out⟩
  · rw [decide_eq_false hf] at HF
    clear hf
    go_enter Try.func7, Try.ntmps7
    go_wp2_with fail
    refine (HF.out).mono ?_
    rintro e w1 ⟨rfl, hb1⟩
    have HB1 := Aside0.mk (hb1)
    clear hb1
    go_wp2_with fail
    refine (alive_any _).mono ?_
    rintro e w2 ⟨rfl, hb2⟩
    have HB2 := Aside0.mk (below_then HB1.out HB1.out.size hb2)
    clear hb2
    go_wp2_with fail
    go_ret
    exact ⟨rfl, HB2.out⟩
end Go.Proofs.Ytmobefgnkiboaaa.Im

namespace Go.Proofs.Ytmobefgnkiboaaa.Im
open Go.RowKit Go.ChangeShapes Go.WideShapes Go.Proofs.YtmobefgnkiboaaaW.PrintWords Go.Proofs.YtmobefgnkiboaaaW.PrintLast Go.Proofs.YtmobefgnkiboaaaW.PrintMore
theorem open_arcs {H : Type} {enc : TypeId × Value → H} {w : World} {base : Nat} {spare : Nat → Bool} {held : Bool} {fuel : Nat} {a : Option Addr} {len cap : Nat} {x : DataW H × List MemPlace}
    (h : DataW.trod enc Try.prog w base spare held fuel 22 [.slice a len cap] = some x) :
    ∃ l : List S43, len = l.length ∧ Kd.C k43 w a l.length l ∧ l.length ≤ cap := by
  rcases Go.Deep.open_slice_pairs Try.underlying22 Try.underlying43 (by kernel_rfl) rfl rfl (by kernel_rfl) (by kernel_rfl) h with ⟨hcs, _⟩ | ⟨b, len', cap', m, n, V0, V1, D0, D1, P0, P1, hcs, hb, hl, hm, hmm, hx, hi⟩
  · simp at hcs
    obtain ⟨rfl, rfl, rfl⟩ := hcs
    exact ⟨[], rfl, ⟨rfl, by simp, fun h => absurd h (by simp)⟩, Nat.le_refl _⟩
  · simp at hcs
    obtain ⟨rfl, rfl, rfl⟩ := hcs
    have hlm : len ≤ m := by rw [hmm]; split <;> omega
    have hint : ∀ i, i < m → ∃ p q : Int, V0 i = .int .i64 p ∧ V1 i = .int .i64 q := fun i him => by
      obtain ⟨_, _, t0, t1⟩ := hi i him
      obtain ⟨p, hp, _⟩ := DataW.trod_int Try.underlying3 t0
      obtain ⟨q, hq, _⟩ := DataW.trod_int Try.underlying3 t1
      exact ⟨p, q, by simpa using hp, by simpa using hq⟩
    let g : Nat → S43 := fun i => ⟨match V0 i with | .int _ p => p | _ => 0, match V1 i with | .int _ q => q | _ => 0⟩
    have hg0 : ∀ i, i < m → V0 i = .int .i64 (g i).f0 := fun i him => by
      obtain ⟨p, q, hp, hq⟩ := hint i him
      simp [g, hp]
    have hg1 : ∀ i, i < m → V1 i = .int .i64 (g i).f1 := fun i him => by
      obtain ⟨p, q, hp, hq⟩ := hint i him
      simp [g, hq]
    refine ⟨(List.range len).map g, by simp, ?_, by simpa using hl⟩
    have hll : ((List.range len).map g).length = len := by simp
    rw [hll]
    refine ⟨hll, by unfold maxLen at hm; omega, fun _ => ⟨b, rfl, fun j p hp => ?_⟩⟩
    have hj : j < len := by
      rcases Nat.lt_or_ge j len with h' | h'
      · exact h'
      · rw [List.getElem?_eq_none (by rw [hll]; exact h')] at hp; cases hp
    have hp' : p = g j := by
      rw [List.getElem?_map, List.getElem?_range hj] at hp
      simpa using hp.symm
    subst hp'
    refine ⟨_, rfl, k43_mk w (g j), fun i u hu => ?_⟩
    obtain ⟨c0, c1, _, _⟩ := hi j (by omega)
    rw [hg0 j (by omega)] at c0
    rw [hg1 j (by omega)] at c1
    match i, hu with
    | 0, hu => simp at hu; subst hu; exact c0
    | 1, hu => simp at hu; subst hu; exact c1
end Go.Proofs.Ytmobefgnkiboaaa.Im

