/- Further parts of the same walk: contracts of the functions that the law reaches, each under the conditions that it states. -/
import Derived.Test.YtmobefgnkiboaaaC6C
namespace Go.Proofs.Ytmobefgnkiboaaa.Im
open Go.RowKit Go.Proofs.YtmobefgnkiboaaaW.PrintWords Go.Proofs.YtmobefgnkiboaaaW.PrintLast Go.Proofs.YtmobefgnkiboaaaW.PrintMore
set_option linter.unusedVariables false
/-- The formula of a person by those to whom an arc leads. -/
def letB (j : Nat) : UInt8 := UInt8.ofNat (97 + j)
def frmL : List Nat → List UInt8
  | [] => [49]
  | [j] => [33, letB j]
  | j :: k :: rest => [40, 33, letB j, 38] ++ frmL (k :: rest) ++ [41]
theorem frmL_len : ∀ l, (frmL l).length ≤ 6 * l.length + 1
  | [] => by simp [frmL]
  | [j] => by simp [frmL]
  | j :: k :: rest => by
    have := frmL_len (k :: rest)
    simp only [frmL, List.length_append, List.length_cons, List.length_nil] at *
    omega
def bytesA (l : List UInt8) : ByteArray := ⟨l.toArray⟩
theorem bytesA_size (l : List UInt8) : (bytesA l).size = l.length := by simp [bytesA, ByteArray.size]
theorem bytesA_append (a b : List UInt8) : bytesA a ++ bytesA b = bytesA (a ++ b) := by
  apply ByteArray.ext
  simp [bytesA, ByteArray.data_append]
theorem joinF (a b : List UInt8) : (Lib.join ([bytesA [40], bytesA a, bytesA [38], bytesA b, bytesA [41]].map (·.data.toList)) (bytesA []).data.toList) = [40] ++ a ++ [38] ++ b ++ [41] := by
  simp [Lib.join, bytesA, List.intercalate, List.intersperse]
theorem frm_step (M : List Nat) (q j : Nat) (h : M.drop q = j :: M.drop (q + 1)) (hq : q + 1 < M.length) : frmL (M.drop q) = [40] ++ [33, letB j] ++ [38] ++ frmL (M.drop (q + 1)) ++ [41] := by
  rw [h]
  have h2 : M.drop (q + 1) = M[q + 1] :: M.drop (q + 1 + 1) := List.drop_eq_getElem_cons hq
  rw [h2]
  simp [frmL]
theorem frm_last (M : List Nat) (q j : Nat) (h : M.drop q = j :: M.drop (q + 1)) (hq : q + 1 = M.length) : frmL (M.drop q) = [33, letB j] := by
  rw [h, hq, List.drop_length]; rfl
def sentB (o : List Nat) (i : Nat) : ByteArray := bytesA (frmL (memL (o.getD i 0)))
def sentAll (n : Nat) (o : List Nat) : Option (List ByteArray) := if (List.range n).all (fun i => decide ((sentB o i).size ≤ 40)) then some ((List.range n).map (sentB o)) else none
def SentR (w : World) (r : Option (List ByteArray)) (e : Ending) (w' : World) : Prop :=
  match r with
  | some l => ∃ v, e = .returned (.tuple #[v, .int .i64 0]) ∧ Kd.R Kd.string 9 w' w.heap.size (fun _ => True) v l ∧ Below w.heap.size w w'
  | none => e = .returned (.tuple #[.slice none 0 0, .int .i64 8]) ∧ Below w.heap.size w w'
def SentPost (n : Int) (l : List S43) (w : World) (e : Ending) (w' : World) : Prop :=
  if ofE n l = 0 then SentR w (if 10 < n then none else sentAll n.toNat (townO l)) e w'
  else e = .returned (.tuple #[.slice none 0 0, .int .i64 (ofE n l)]) ∧ Below w.heap.size w w'
theorem run_rune0 (w : World) : (convert 21 9 (.int .i32 97)).run Try.prog w = .ok (.string (bytesA [letB 0])) w := by kernel_rfl
theorem run_rune1 (w : World) : (convert 21 9 (.int .i32 98)).run Try.prog w = .ok (.string (bytesA [letB 1])) w := by kernel_rfl
theorem run_rune2 (w : World) : (convert 21 9 (.int .i32 99)).run Try.prog w = .ok (.string (bytesA [letB 2])) w := by kernel_rfl
theorem run_rune3 (w : World) : (convert 21 9 (.int .i32 100)).run Try.prog w = .ok (.string (bytesA [letB 3])) w := by kernel_rfl
theorem run_rune4 (w : World) : (convert 21 9 (.int .i32 101)).run Try.prog w = .ok (.string (bytesA [letB 4])) w := by kernel_rfl
theorem run_rune5 (w : World) : (convert 21 9 (.int .i32 102)).run Try.prog w = .ok (.string (bytesA [letB 5])) w := by kernel_rfl
theorem run_rune6 (w : World) : (convert 21 9 (.int .i32 103)).run Try.prog w = .ok (.string (bytesA [letB 6])) w := by kernel_rfl
theorem run_rune7 (w : World) : (convert 21 9 (.int .i32 104)).run Try.prog w = .ok (.string (bytesA [letB 7])) w := by kernel_rfl
theorem run_rune8 (w : World) : (convert 21 9 (.int .i32 105)).run Try.prog w = .ok (.string (bytesA [letB 8])) w := by kernel_rfl
theorem run_rune9 (w : World) : (convert 21 9 (.int .i32 106)).run Try.prog w = .ok (.string (bytesA [letB 9])) w := by kernel_rfl
theorem run_rune10 (w : World) : (convert 21 9 (.int .i32 107)).run Try.prog w = .ok (.string (bytesA [letB 10])) w := by kernel_rfl
theorem run_rune11 (w : World) : (convert 21 9 (.int .i32 108)).run Try.prog w = .ok (.string (bytesA [letB 11])) w := by kernel_rfl
theorem run_rune (j : Nat) (hj : j < 12) (w : World) : (convert 21 9 (.int .i32 (97 + (j : Int)))).run Try.prog w = .ok (.string (bytesA [letB j])) w := by
  rcases j with _|_|_|_|_|_|_|_|_|_|_|_|j
  · exact run_rune0 w
  · exact run_rune1 w
  · exact run_rune2 w
  · exact run_rune3 w
  · exact run_rune4 w
  · exact run_rune5 w
  · exact run_rune6 w
  · exact run_rune7 w
  · exact run_rune8 w
  · exact run_rune9 w
  · exact run_rune10 w
  · exact run_rune11 w
  · omega
theorem l_rune {ops : Array Oper} {Q : Exit → Act → World → Prop} {rest : List Oper} {o : Oper} {a : Act} {w : World} (hgd : o.guard = none) {x : Operand} (ho : o.op = .convert 21 9 x) (j : Nat) (hj : j < 12) (r : Int) (hx : a.eval x = .int .i32 r) (hr : r = 97 + (j : Int))
    (h : wpList Try.prog ops Q rest (a.put o.dst (.string (bytesA [letB j]))) w) : wpList Try.prog ops Q (o :: rest) a w := by
  subst hr
  refine wpList_plain hgd fun K hK => ?_
  have hl := run_rune j hj w
  have e : (execOp a.eval o).run Try.prog w = .ok (.value (.string (bytesA [letB j]))) w := by
    unfold execOp
    simp [ho, hx, hl, Result.andThen]
  unfold Oper.wp
  rw [e]
  exact hK _ _ h
set_option maxHeartbeats 3200000 in
set_option maxRecDepth 100000 in
theorem Sentences_any (n : Int) (A : Option Addr) (c : Nat) (l : List S43) (w : World) (hr : Kd.C k43 w A l.length l) (hc : l.length ≤ c) :
    Calls Try.prog 19 #[.int .i64 n, .slice A l.length c] w (SentPost n l w) := by
  have HO := Aside0.mk (of_A n A c l w hr hc)
  have HZ := Aside0.mk (ofA_size n l)
  have H1 := Aside0.mk (ofA_one n l)
  clear hr hc
  by_cases he : ofE n l = 0
  · have ok := okt_of he
    have hA : ofA n l = tnN n.toNat (townO l) := by rw [ofA, if_pos he]
    have hK : SentPost n l w = SentR w (if 10 < n then none else sentAll n.toNat (townO l)) := by funext e w'; simp [SentPost, he]
    have hnn := (ofE_ok he).1
    rw [hK]
    rw [hA] at HO HZ H1
    rw [he] at HO
    clear he hA hK
    generalize townO l = o at *
    obtain ⟨m, rfl⟩ : ∃ m : Nat, n = m := ⟨n.toNat, by omega⟩
    rw [Int.toNat_natCast] at *
    have HK := Aside0.mk ok
    have n12 := ok.n12
    clear ok hnn
    by_cases h10 : (10 : Int) < m
    · rw [if_pos h10]
      go_enter Try.func19, Try.ntmps19
      go_wp2_with fail
      refine HO.out.mono ?_
      rintro e w1 ⟨rfl, hb⟩
      have HB := Aside0.mk hb
      clear hb HO
      go_wp2_with (refine wpList_store_row rfl 50 _ _ rfl w1.heap.size (tnN m o) rfl rfl 50 (tnN 0 zero12) (heap_alloc_new w1 _) (by rw [info50, HZ.out]) (by rw [HZ.out]; rfl) H1.out ?_; rw [World.setRow_alloc_new])
      go_ret2
      exact ⟨rfl, below_alloc HB.out _⟩
    · rw [if_neg h10]
      have hd10 : decide ((10 : Int) < m) = false := decide_eq_false h10
      obtain ⟨R, hR⟩ : ∃ R, sentAll m o = R := ⟨_, rfl⟩
      rw [hR]
      have HR := Aside0.mk hR
      clear hR
      go_enter Try.func19, Try.ntmps19
      go_wp2_with fail
      refine HO.out.mono ?_
      rintro e w1 ⟨rfl, hb⟩
      have HB := Aside0.mk hb
      clear hb HO
      have HT : Aside0 (TnN (w1.alloc (.cells (tnN m o) 50)) w1.heap.size m o) := ⟨Blk.new _ _ _⟩
      have HB1 := Aside0.mk (below_alloc HB.out (.cells (tnN m o) 50))
      go_wp2_with (refine wpList_store_row rfl 50 _ _ rfl w1.heap.size (tnN m o) rfl rfl 50 (tnN 0 zero12) (heap_alloc_new w1 _) (by rw [info50, HZ.out]) (by rw [HZ.out]; rfl) H1.out ?_; rw [World.setRow_alloc_new])
      generalize w1.alloc (.cells (tnN m o) 50) = W0 at *
      generalize w1.heap.size = g6 at *
      clear HB
      have HW0 := HB1.out.size
      go_loopw [8, 28] (fun v8 v wr => ∃ i : Nat, i ≤ m ∧ v = .int .i64 (i : Int) ∧ Aside0 (Kd.R Kd.string 9 wr w.heap.size (fun _ => True) v8 ((List.range i).map (sentB o))) ∧ Aside0 (∀ j, j < i → (sentB o j).size ≤ 40) ∧ Aside0 (Below w.heap.size w wr) ∧ Aside0 (TnN wr g6 m o)) (fun _ v _ => m - (intOf v).toNat)
      case atStart => exact ⟨0, Nat.zero_le _, rfl, ⟨Kd.R_nil _ _ _ _ _⟩, ⟨fun j hj => absurd hj (by omega)⟩, HB1, HT⟩
      case round =>
        obtain ⟨i, hi, rfl, HR8, HS, HBr, HTr⟩ := hrel
        by_cases him : i < m
        · have co := TnN.cellS HTr.out i (by rw [HK.out.len]; omega)
          rw [Nat.add_comm] at co
          have hnx : o.getD i 0 < 4096 := Nat.lt_of_lt_of_le (HK.out.lt _) (Nat.pow_le_pow_right (by decide) HK.out.n12 : 2 ^ m ≤ 2 ^ 12)
          have hse : sentB o i = bytesA (frmL (memL (o.getD i 0))) := rfl
          generalize o.getD i 0 = nx at *
          have hml := memL_len nx
          have HML := Aside0.mk (fun x (hx : x ∈ memL nx) => memL_lt hx)
          have HM := Aside0.mk (fun w => members_any nx w hnx)
          rw [show memL nx = mem12 nx 0 from rfl] at *
          generalize mem12 nx 0 = M at *
          have hlm : (ints M).length = M.length := ints_length M
          have i0 : (0 : Int) ≤ i := by omega
          have i1 : (i : Int) < 12 := by omega
          have HSE := Aside0.mk hse
          clear hse
          go_wp2_with fail
          refine (HM.out _).mono ?_
          rintro e w3 ⟨v3, rfl, hr3, hb3⟩
          obtain ⟨A3, c3, rfl, hl3, hC3⟩ := Kd.R_reads hr3
          have HB3 := Aside0.mk (below_then HBr.out HBr.out.size hb3)
          have HT3 := Aside0.mk (Blk.later HTr.out hb3)
          have HR3 := Aside0.mk (Kd.R_below HR8.out hb3)
          have HC3 := Aside0.mk hC3
          rw [hlm] at HC3 hl3 ⊢
          clear hr3 hb3 hC3 HM co
          go_wp2_with fail
          go_loopw [11, 12] (fun v11 v wr => ∃ k : Nat, k ≤ M.length ∧ v = .int .i64 ((k : Int) - 1) ∧ v11 = .string (bytesA (frmL (M.drop k))) ∧ Aside0 (Below w3.heap.size w3 wr)) (fun _ v _ => (intOf v + 1).toNat)
          case atStart => exact ⟨M.length, Nat.le_refl _, rfl, by rw [List.drop_length]; rfl, ⟨Below.refl _ _⟩⟩
          case round =>
            obtain ⟨k, hk, rfl, rfl, HBx⟩ := hrel
            by_cases hk0 : 1 ≤ k
            · obtain ⟨q, rfl⟩ : ∃ q, k = q + 1 := ⟨k - 1, by omega⟩
              rw [show (((q + 1 : Nat) : Int) - 1) = (q : Int) by omega]
              obtain ⟨ad, rfl, cx⟩ := Kd.at_int HC3.out (q : Int) (by omega) (by omega)
              replace cx := (HBx.out.cell (World.block_lt_of_cell? w3 _ cx)).trans cx
              rw [rd_ints, Int.toNat_natCast] at cx
              have hje : M.getD q 0 = M[q] := by rw [List.getD_eq_getElem?_getD, List.getElem?_eq_getElem (by omega)]; rfl
              have hj12 : M[q] < 12 := HML.out _ (List.getElem_mem (by omega))
              rw [hje] at cx
              have hdr : M.drop q = M[q] :: M.drop (q + 1) := List.drop_eq_getElem_cons (by omega)
              have HDR := Aside0.mk hdr
              generalize M[q] = j at *
              clear hdr hje
              have hsl : (frmL (M.drop (q + 1))).length ≤ 73 := by have := frmL_len (M.drop (q + 1)); rw [List.length_drop] at this; omega
              by_cases hkm : q + 1 = M.length
              · have neq : ((q : Int) == ((M.length : Int) - 1)) = true := beq_iff_eq.2 (by omega)
                have hf := frm_last M q j HDR.out hkm
                have HF := Aside0.mk hf
                have hown : bytesA [33] ++ bytesA [letB j] = bytesA [33, letB j] := bytesA_append _ _
                have HOW := Aside0.mk hown
                clear hf hown
                generalize frmL (M.drop (q + 1)) = so at *
                go_wp2_with (refine l_rune rfl rfl j hj12 _ rfl rfl ?_)
                go_roundw
                case rel => exact ⟨q, by omega, rfl, by rw [HF.out]; exact congrArg Value.string HOW.out, HBx⟩
                case measure => simp [intOf]; try omega
              · have neq : ((q : Int) == ((M.length : Int) - 1)) = false := beq_eq_false_iff_ne.2 (by omega)
                have hf := frm_step M q j HDR.out (by omega)
                have HF := Aside0.mk hf
                clear hf
                generalize frmL (M.drop (q + 1)) = so at *
                have HOW := Aside0.mk (show bytesA [33] ++ bytesA [letB j] = bytesA [33, letB j] from bytesA_append [33] [letB j])
                have HJN := Aside0.mk (joinF [33, letB j] so)
                go_wp2_with (refine l_rune rfl rfl j hj12 _ rfl rfl ?_)
                have hbw : Below wr.heap.size wr (wr.alloc (.cells #[.string (bytesA [40]), .string (bytesA [33, letB j]), .string (bytesA [38]), .string (bytesA so), .string (bytesA [41])] 9)) := below_alloc (Below.refl _ _) _
                have hJ := Try.strings_Join wr.heap.size 0 5 [bytesA [40], bytesA [33, letB j], bytesA [38], bytesA so, bytesA [41]] (bytesA []) (wr.alloc (.cells #[.string (bytesA [40]), .string (bytesA [33, letB j]), .string (bytesA [38]), .string (bytesA so), .string (bytesA [41])] 9))
                  (fun jj x hx => by
                    rw [Nat.zero_add, (Blk.new wr 9 _).cell jj]
                    match jj, hx with
                    | 0, hx => simp at hx; subst hx; rfl
                    | 1, hx => simp at hx; subst hx; rfl
                    | 2, hx => simp at hx; subst hx; rfl
                    | 3, hx => simp at hx; subst hx; rfl
                    | 4, hx => simp at hx; subst hx; rfl
                    | (n + 5), hx => simp at hx)
                  (by simp) (by simp) (by simp) (by rw [HJN.out]; simp; omega)
                rw [HJN.out, ← HF.out, ← HOW.out] at hJ
                refine hJ.mono ?_
                rintro e w5 ⟨rfl, hb5⟩
                rw [HOW.out] at hb5
                have HB5 := Aside0.mk (below_then HBx.out HBx.out.size (below_then hbw hbw.size hb5))
                clear hbw hJ hb5
                go_wp2_with fail
                go_roundw
                case rel => exact ⟨q, by omega, rfl, rfl, HB5⟩
                case measure => simp [intOf]; try omega
            · obtain rfl : k = 0 := by omega
              rw [List.drop_zero]
              have kz : ¬ (0 : Int) ≤ ((0 : Nat) : Int) - 1 := by omega
              have hfl := frmL_len M
              have hse := HSE.out
              have HS1 : Aside0 ((sentB o i).size = (frmL M).length) := ⟨by rw [hse, bytesA_size]⟩
              generalize frmL M = fM at *
              have hsz : ((bytesA fM).size : Int) = (fM.length : Int) := by rw [bytesA_size]
              have HRx := Aside0.mk (Kd.R_below HR3.out HBx.out)
              have HTx := Aside0.mk (Blk.later HT3.out HBx.out)
              have HBxx := Aside0.mk (below_then HB3.out HB3.out.size HBx.out)
              have HSE2 := Aside0.mk hse
              generalize hsb : bytesA fM = sb at *
              have hs2 : sb.size = fM.length := by rw [← hsb, bytesA_size]
              clear hsb hsz hse
              by_cases h40 : fM.length ≤ 40
              · have h40' : ¬ (40 < (sb.size : Int)) := by omega
                have HS2 : Aside0 (∀ j, j < i + 1 → (sentB o j).size ≤ 40) := ⟨fun j hj => by
                  rcases Nat.lt_or_ge j i with h | h
                  · exact HS.out j h
                  · obtain rfl : j = i := by omega
                    rw [HS1.out]; exact h40⟩
                have HRG : Aside0 ((List.range (i + 1)).map (sentB o) = (List.range i).map (sentB o) ++ [sb]) := ⟨by rw [List.range_succ, List.map_append, ← HSE2.out]; rfl⟩
                have hLl : ((List.range i).map (sentB o)).length = i := by simp
                generalize (List.range i).map (sentB o) = L at *
                have HL := Aside0.mk hLl
                clear hLl hs2
                go_wp2_with (first | ((with_reducible refine gate_builtin (b := .append) (xs := #[.tmp 64, .tmp 66]) rfl ?_); at_builtin; refine Kd.R_append Kd.string (w0 := w) w.heap.size rfl (.tmp 64) (.tmp 66) 31 9 (.string ⟨#[]⟩) 16 rfl Try.underlying31 info9 rfl (by decide) (by omega) u8 L sb [.string sb] (fun _ => True) (fun _ => False) rfl rfl rfl (fun _ hk => hk.elim) (fun _ _ => trivial) HRx.out HBxx.out HBxx.out.size (by have := HL.out; omega) ?_; intro v9 w9 ho hb hg hat; have HO9 := Aside0.mk ho; have HB9 := Aside0.mk hb; have HT9 := Aside0.mk (Blk.gb HTx.out hg (Kd.R_ne HRx.out HTx.out (by decide))); clear ho hb hg hat))
                go_roundw
                case rel => exact ⟨i + 1, by omega, by go_num, ⟨by rw [HRG.out]; exact HO9.out⟩, HS2, HB9, HT9⟩
                case measure => simp [intOf]; try omega
              · have h40' : 40 < (sb.size : Int) := by omega
                have HF := Aside0.mk (show R = none by
                  rw [← HR.out, sentAll, if_neg]
                  rw [List.all_eq_true]
                  intro h
                  have := h i (List.mem_range.2 him)
                  rw [decide_eq_true_eq, HS1.out] at this
                  exact h40 this)
                clear hs2
                go_wp2_with fail
                go_ret2
                rw [HF.out]
                exact ⟨rfl, HBxx.out⟩
        · obtain rfl : i = m := by omega
          have HF := Aside0.mk (show R = some ((List.range i).map (sentB o)) by
            rw [← HR.out, sentAll, if_pos]
            rw [List.all_eq_true]
            exact fun x hx => decide_eq_true (HS.out x (List.mem_range.1 hx)))
          go_wp2_with fail
          go_ret2
          rw [HF.out]
          exact ⟨_, rfl, HR8.out, HBr.out⟩
  · have hK : SentPost n l w = fun e w' => e = .returned (.tuple #[.slice none 0 0, .int .i64 (ofE n l)]) ∧ Below w.heap.size w w' := by funext e w'; simp [SentPost, he]
    rw [hK]
    have hb : (ofE n l != 0) = true := bne_iff_ne.2 he
    have hb' : (ofE n l == 0) = false := beq_eq_false_iff_ne.2 he
    clear hK he
    generalize ofE n l = er at *
    go_enter Try.func19, Try.ntmps19
    go_wp2_with fail
    refine HO.out.mono ?_
    rintro e w1 ⟨rfl, hb⟩
    have HB := Aside0.mk hb
    clear hb HO
    go_wp2_with (refine wpList_store_row rfl 50 _ _ rfl w1.heap.size (ofA n l) rfl rfl 50 (tnN 0 zero12) (heap_alloc_new w1 _) (by rw [info50, HZ.out]) (by rw [HZ.out]; rfl) H1.out ?_)
    go_ret2
    exact ⟨rfl, by rw [World.setRow_alloc_new]; exact below_alloc HB.out _⟩
end Go.Proofs.Ytmobefgnkiboaaa.Im
namespace Go.Proofs.Ytmobefgnkiboaaa.Im
open Go.RowKit Go.Proofs.YtmobefgnkiboaaaW.PrintWords Go.Proofs.YtmobefgnkiboaaaW.PrintLast Go.Proofs.YtmobefgnkiboaaaW.PrintMore
set_option linter.unusedVariables false
theorem run_slice2 (w : World) (A : Option Addr) (n c : Nat) (hn : 2 ≤ n) (hc : n ≤ c) :
    (Instr.sliceAt 22 (.slice A n c) none (some (.int .i64 2)) none).run Try.prog w = .ok (.slice A 2 c) w := by
  have hu : Try.prog.underlying 22 = some (.slice (Try.prog.elem 22)) := by rw [Try.underlying22]; rfl
  rw [run_sliceAt_slice w _ _ _ _ _ hu, run_slice_h w 22 A n c hu .i64 2 (by omega) (by omega)]
  have hs : (sizeOf (Try.prog.elem 22)).run Try.prog w = .ok 2 w := by kernel_rfl
  rw [hs]
  simp only [Result.andThen_ok, sliced]
  cases A with
  | none => simp
  | some b => simp [add_zero]
theorem l_slice2 {ops : Array Oper} {Q : Exit → Act → World → Prop} {rest : List Oper} {o : Oper} {a : Act} {w : World} (hgd : o.guard = none) {x : Operand} (ho : o.op = .slice 22 x none (some (.const (.int .i64 2))) none) (A : Option Addr) (n c : Nat) (hx : a.eval x = .slice A n c) (hn : 2 ≤ n) (hc : n ≤ c)
    (h : wpList Try.prog ops Q rest (a.put o.dst (.slice A 2 c)) w) : wpList Try.prog ops Q (o :: rest) a w := by
  refine wpList_plain hgd fun K hK => ?_
  have hl := run_slice2 w A n c hn hc
  have hy : a.eval (.const (.int .i64 2)) = .int .i64 2 := rfl
  have e : (execOp a.eval o).run Try.prog w = .ok (.value (.slice A 2 c)) w := by
    unfold execOp
    simp [ho, hx, Result.andThen]
    rw [hy, hl]
  unfold Oper.wp
  rw [e]
  exact hK _ _ h
def ring3 : List S43 := [⟨0, 1⟩, ⟨1, 2⟩, ⟨2, 0⟩]
def ring4 : List S43 := [⟨0, 1⟩, ⟨1, 2⟩, ⟨2, 3⟩, ⟨3, 0⟩]
def path3 : List S43 := [⟨0, 1⟩, ⟨1, 2⟩]
theorem ring3_f : pomadelaw02_ring.f 5 3 = some ring3 := by kernel_rfl
theorem ring4_f : pomadelaw02_ring.f 6 4 = some ring4 := by kernel_rfl
theorem k3_E : ofE 3 ring3 = 0 := by decide
theorem k4_E : ofE 4 ring4 = 0 := by decide
theorem p3_E : ofE 3 path3 = 0 := by decide
theorem k3_T : townO ring3 = [2, 4, 1, 0, 0, 0, 0, 0, 0, 0, 0, 0] := by decide
theorem k4_T : townO ring4 = [2, 4, 8, 1, 0, 0, 0, 0, 0, 0, 0, 0] := by decide
theorem p3_T : townO path3 = [2, 4, 0, 0, 0, 0, 0, 0, 0, 0, 0, 0] := by decide
theorem k3_none : firstS (fun s => kerB (3 : Int).toNat (townO ring3) s (2 ^ (3 : Int).toNat - 1)) (3 : Int).toNat = none := by rw [k3_T]; decide
theorem k3_odd : oddS (3 : Int).toNat (townO ring3) = some [0, 1, 2] := by rw [k3_T]; decide
theorem k4_many : manyK (4 : Int).toNat (townO ring4) (2 ^ (4 : Int).toNat) = 2 := by rw [k4_T]; decide
theorem p3_rank : rankF (townO path3) (3 : Int).toNat [] = some [0, 1, 0] := by rw [p3_T]; decide
theorem p3_sent : sentAll (3 : Int).toNat (townO path3) = some [⟨#[33, 98]⟩, ⟨#[33, 99]⟩, ⟨#[49]⟩] := by rw [p3_T]; rfl
theorem ring_any (k : Nat) (n : Int) (r : List S43) (w : World) (h : pomadelaw02_ring.f k n = some r) :
    Calls Try.prog 44 #[.int .i64 n] w fun e w' => ∃ (A : Option Addr) (c : Nat), e = .returned (.slice A r.length c) ∧ r.length ≤ c ∧ Kd.C k43 w' A r.length r ∧ Below w.heap.size w w' :=
  (pomadelaw02_ring.calls k n r w h).mono fun e w' ⟨v, h1, h2, h3⟩ => by
    obtain ⟨A, c, rfl, hl, hC⟩ := Kd.R_reads h2
    exact ⟨A, c, h1, hl, hC, h3⟩
theorem Kernel_ring (A : Option Addr) (c : Nat) (w : World) (hr : Kd.C k43 w A 3 ring3) (hc : 3 ≤ c) :
    Calls Try.prog 23 #[.int .i64 3, .slice A 3 c] w fun e w' => e = .returned (.tuple #[.slice none 0 0, .int .i64 10]) ∧ Below w.heap.size w w' :=
  (Kernel_any 3 A c ring3 w hr hc).mono fun e w' h => by
    unfold KernelPost at h
    rw [if_pos k3_E, k3_none] at h
    exact h
theorem Odd_ring (A : Option Addr) (c : Nat) (w : World) (hr : Kd.C k43 w A 3 ring3) (hc : 3 ≤ c) :
    Calls Try.prog 28 #[.int .i64 3, .slice A 3 c] w fun e w' => ∃ A c, e = .returned (.tuple #[.slice (some A) 3 c, .int .i64 0]) ∧ 3 ≤ c ∧ Kd.C (Kd.int .i64) w' (some A) 3 [0, 1, 2] ∧ Below w.heap.size w w' :=
  (Odd_any 3 A c ring3 w hr hc).mono fun e w' h => by
    unfold OddPost at h
    rw [if_pos k3_E, k3_odd] at h
    exact h
theorem Kernels_ring (A : Option Addr) (c : Nat) (w : World) (hr : Kd.C k43 w A 4 ring4) (hc : 4 ≤ c) :
    Calls Try.prog 24 #[.int .i64 4, .slice A 4 c] w fun e w' => e = .returned (.tuple #[.int .i64 2, .int .i64 0]) ∧ Below w.heap.size w w' :=
  (Kernels_any 4 A c ring4 w hr hc).mono fun e w' h => by
    unfold KernelsPost at h
    rw [if_pos k4_E, k4_many, k4_E] at h
    exact h
theorem Ranks_path (A : Option Addr) (c : Nat) (w : World) (hr : Kd.C k43 w A 2 path3) (hc : 2 ≤ c) :
    Calls Try.prog 16 #[.int .i64 3, .slice A 2 c] w fun e w' => ∃ A c, e = .returned (.tuple #[.slice (some A) 3 c, .int .i64 0]) ∧ 3 ≤ c ∧ Kd.C (Kd.int .i64) w' (some A) 3 [0, 1, 0] ∧ Below w.heap.size w w' :=
  (Ranks_any 3 A c path3 w hr hc).mono fun e w' h => by
    unfold RanksPost at h
    rw [if_pos p3_E, p3_rank] at h
    exact h
theorem Sent_path (A : Option Addr) (c : Nat) (w : World) (hr : Kd.C k43 w A 2 path3) (hc : 2 ≤ c) :
    Calls Try.prog 19 #[.int .i64 3, .slice A 2 c] w fun e w' => ∃ A c, e = .returned (.tuple #[.slice A 3 c, .int .i64 0]) ∧ 3 ≤ c ∧ Kd.C Kd.string w' A 3 [⟨#[33, 98]⟩, ⟨#[33, 99]⟩, ⟨#[49]⟩] ∧ Below w.heap.size w w' :=
  (Sentences_any 3 A c path3 w hr hc).mono fun e w' h => by
    unfold SentPost at h
    rw [if_pos p3_E, if_neg (by omega), p3_sent] at h
    obtain ⟨v, h1, h2, h3⟩ := h
    obtain ⟨A, c, rfl, hl, hC⟩ := Kd.R_reads h2
    exact ⟨A, c, h1, hl, hC, h3⟩
theorem same3 (a b c : Int) (A B : Option Addr) (c0 c1 : Nat) (w : World) (h0 : Kd.C (Kd.int .i64) w A 3 [a, b, c]) (h1 : Kd.C (Kd.int .i64) w B 3 [a, b, c]) (hc0 : 3 ≤ c0) (hc1 : 3 ≤ c1) :
    Calls Try.prog 18 #[.slice A 3 c0, .slice B 3 c1] w fun e w' => e = .returned (.bool true) ∧ Drawn0 w w' :=
  pomadelaw02_same.calls 6 A c0 [a, b, c] B c1 [a, b, c] true w h0 hc0 h1 hc1 (by
    have e1 : wrap64 1 = 1 := by unfold wrap64; omega
    have e2 : wrap64 2 = 2 := by unfold wrap64; omega
    have e3 : wrap64 3 = 3 := by unfold wrap64; omega
    simp [pomadelaw02_same.f, pomadelaw02_same.l0, e1, e2, e3, rd])
set_option maxHeartbeats 3200000 in
set_option maxRecDepth 100000 in
theorem alive_any (w : World) : Calls Try.prog 15 #[] w fun e w' => e = .returned (.bool true) ∧ Below w.heap.size w w' := by
  go_enter Try.func15, Try.ntmps15
  go_wp2_with fail
  refine (ring_any 5 3 ring3 _ ring3_f).mono ?_
  rintro e w1 ⟨A1, c1, rfl, hc1, hC1, hb1⟩
  have HB1 := Aside0.mk hb1
  have HC1 := Aside0.mk hC1
  clear hb1 hC1
  go_wp2_with fail
  refine (Kernel_ring A1 c1 _ HC1.out hc1).mono ?_
  rintro e w2 ⟨rfl, hb2⟩
  have HB2 := Aside0.mk (below_then HB1.out HB1.out.size hb2)
  clear hb2 HB1 HC1
  go_wp2_with fail
  refine (ring_any 5 3 ring3 _ ring3_f).mono ?_
  rintro e w3 ⟨A3, c3, rfl, hc3, hC3, hb3⟩
  have HB3 := Aside0.mk (below_then HB2.out HB2.out.size hb3)
  have HC3 := Aside0.mk hC3
  clear hb3 hC3 HB2
  go_wp2_with fail
  refine (Odd_ring A3 c3 _ HC3.out hc3).mono ?_
  rintro e w4 ⟨A4, c4, rfl, hc4, hC4, hb4⟩
  have HB4 := Aside0.mk (below_then HB3.out HB3.out.size hb4)
  have HC4 := Aside0.mk hC4
  clear hb4 hC4 HB3 HC3
  go_wp2_with fail
  refine (ring_any 6 4 ring4 _ ring4_f).mono ?_
  rintro e w5 ⟨A5, c5, rfl, hc5, hC5, hb5⟩
  have HB5 := Aside0.mk (below_then HB4.out HB4.out.size hb5)
  have HD5 := Aside0.mk (Kd.C_below HC4.out hb5)
  have HC5 := Aside0.mk hC5
  clear hb5 hC5 HB4 HC4
  go_wp2_with fail
  refine (Kernels_ring A5 c5 _ HC5.out hc5).mono ?_
  rintro e w6 ⟨rfl, hb6⟩
  have HB6 := Aside0.mk (below_then HB5.out HB5.out.size hb6)
  have HD6 := Aside0.mk (Kd.C_below HD5.out hb6)
  clear hb6 HB5 HC5 HD5
  go_wp2_with fail
  refine (ring_any 5 3 ring3 _ ring3_f).mono ?_
  rintro e w7 ⟨A7, c7, rfl, hc7, hC7, hb7⟩
  have HB7 := Aside0.mk (below_then HB6.out HB6.out.size hb7)
  have HD7 := Aside0.mk (Kd.C_below HD6.out hb7)
  have hC7t := Kd.C_take (m := 2) hC7 (by decide)
  have HC7 := Aside0.mk hC7t
  have hc7' : 3 ≤ c7 := hc7
  clear hb7 hC7 HB6 HD6 hC7t
  go_wp2_with (refine l_slice2 rfl rfl A7 3 c7 rfl (by omega) hc7' ?_)
  refine (Ranks_path A7 c7 _ HC7.out (by omega)).mono ?_
  rintro e w8 ⟨A8, c8, rfl, hc8, hC8, hb8⟩
  have HB8 := Aside0.mk (below_then HB7.out HB7.out.size hb8)
  have HD8 := Aside0.mk (Kd.C_below HD7.out hb8)
  have HC8 := Aside0.mk hC8
  clear hb8 hC8 HB7 HD7 HC7
  go_wp2_with fail
  refine (ring_any 5 3 ring3 _ ring3_f).mono ?_
  rintro e w9 ⟨A9, c9, rfl, hc9, hC9, hb9⟩
  have HB9 := Aside0.mk (below_then HB8.out HB8.out.size hb9)
  have HD9 := Aside0.mk (Kd.C_below HD8.out hb9)
  have HE9 := Aside0.mk (Kd.C_below HC8.out hb9)
  have hC9t := Kd.C_take (m := 2) hC9 (by decide)
  have HC9 := Aside0.mk hC9t
  have hc9' : 3 ≤ c9 := hc9
  clear hb9 hC9 HB8 HD8 HC8 hC9t
  go_wp2_with (refine l_slice2 rfl rfl A9 3 c9 rfl (by omega) hc9' ?_)
  refine (Sent_path A9 c9 _ HC9.out (by omega)).mono ?_
  rintro e wa ⟨Aa, ca, rfl, hca, hCa, hba⟩
  have HBa := Aside0.mk (below_then HB9.out HB9.out.size hba)
  have HDa := Aside0.mk (Kd.C_below HD9.out hba)
  have HEa := Aside0.mk (Kd.C_below HE9.out hba)
  have HFa := Aside0.mk hCa
  clear hba hCa HB9 HD9 HE9 HC9
  go_wp2_with fail
  have hbb : Below wa.heap.size wa (wa.alloc (.cells #[.int .i64 0, .int .i64 1, .int .i64 2] 3)) := below_alloc (Below.refl _ _) _
  have hCb := C_nums (l := [0, 1, 2]) (Blk.new wa 3 (numsA [0, 1, 2])) (by decide)
  refine (same3 0 1 2 (some A4) (some ⟨wa.heap.size, 0, none⟩) c4 3 _ (Kd.C_below HDa.out hbb) hCb hc4 (by omega)).mono ?_
  rintro e wb ⟨rfl, hdb⟩
  have hbw := below_then hbb hbb.size hdb.below
  have HBb := Aside0.mk (below_then HBa.out HBa.out.size hbw)
  have HEb := Aside0.mk (Kd.C_below HEa.out hbw)
  have HFb := Aside0.mk (Kd.C_below HFa.out hbw)
  clear hbb hCb hdb hbw HBa HDa HEa HFa
  go_wp2_with fail
  have hbc : Below wb.heap.size wb (wb.alloc (.cells #[.int .i64 0, .int .i64 1, .int .i64 0] 3)) := below_alloc (Below.refl _ _) _
  have hCc := C_nums (l := [0, 1, 0]) (Blk.new wb 3 (numsA [0, 1, 0])) (by decide)
  refine (same3 0 1 0 (some A8) (some ⟨wb.heap.size, 0, none⟩) c8 3 _ (Kd.C_below HEb.out hbc) hCc hc8 (by omega)).mono ?_
  rintro e wc ⟨rfl, hdc⟩
  have hbw := below_then hbc hbc.size hdc.below
  have HBc := Aside0.mk (below_then HBb.out HBb.out.size hbw)
  have hFc := Kd.C_below HFb.out hbw
  clear hbc hCc hdc hbw HBb HEb HFb
  obtain ⟨ad, rfl, s0⟩ := Kd.at_string hFc 0 (by omega) (by omega)
  obtain ⟨_, e1, s1⟩ := Kd.at_string hFc 1 (by omega) (by omega)
  cases e1
  obtain ⟨_, e1, s2⟩ := Kd.at_string hFc 2 (by omega) (by omega)
  cases e1
  have s0' : wc.cell? ad = some (.string ⟨#[33, 98]⟩) := s0
  have s1' : wc.cell? ⟨ad.block, ad.off + 1, none⟩ = some (.string ⟨#[33, 99]⟩) := s1
  have s2' : wc.cell? ⟨ad.block, ad.off + 2, none⟩ = some (.string ⟨#[49]⟩) := s2
  clear s0 s1 s2 hFc
  go_wp2_with fail
  go_ret
  exact ⟨rfl, HBc.out⟩
end Go.Proofs.Ytmobefgnkiboaaa.Im

namespace Go.Proofs.Ytmobefgnkiboaaa.Im
open Go.RowKit Go.Proofs.YtmobefgnkiboaaaW.PrintWords Go.Proofs.YtmobefgnkiboaaaW.PrintLast Go.Proofs.YtmobefgnkiboaaaW.PrintMore
set_option linter.unusedVariables false
theorem same_l0 (xs : List Int) (hx : xs.length < 1000000) : ∀ (d i : Nat), i + d = xs.length → Gives (fun k => pomadelaw02_same.l0 k xs xs i) true
  | 0, i, h => Gives.now fun k => by
    simp only [pomadelaw02_same.l0]
    rw [if_neg (by omega)]
  | d + 1, i, h => (same_l0 xs hx d (i + 1) (by omega)).step fun k hk => by
    simp only [pomadelaw02_same.l0]
    rw [if_pos (by omega), if_pos (by omega), if_pos (by omega), if_pos trivial, wr_succ i (by omega), hk]
theorem same_g (xs : List Int) (hx : xs.length < 1000000) : Gives (fun k => pomadelaw02_same.f k xs xs) true :=
  (same_l0 xs hx xs.length 0 (by omega)).map fun k hk => by
    simp only [pomadelaw02_same.f]
    rw [if_pos trivial]; exact hk
theorem same_any (xs : List Int) (A B : Option Addr) (c d : Nat) (w : World) (hx : xs.length < 1000000) (hA : Kd.C (Kd.int .i64) w A xs.length xs) (hc : xs.length ≤ c) (hB : Kd.C (Kd.int .i64) w B xs.length xs) (hd : xs.length ≤ d) :
    Calls Try.prog 18 #[.slice A xs.length c, .slice B xs.length d] w fun e w' => e = .returned (.bool true) ∧ Below w.heap.size w w' := by
  obtain ⟨k0, hk0⟩ := same_g xs hx
  exact (pomadelaw02_same.calls k0 A c xs B d xs true w hA hc hB hd (hk0 k0 (Nat.le_refl _))).mono fun e w' ⟨h1, h2⟩ => ⟨h1, h2.below⟩
theorem few_any (A B : Option Addr) (c d : Nat) (l : List S43) (xs : List Int) (w : World) (hA : Kd.C k43 w A l.length l) (hc : l.length ≤ c) (hB : Kd.C (Kd.int .i64) w B xs.length xs) (hd : xs.length ≤ d) :
    Calls Try.prog 14 #[.slice A l.length c, .slice B xs.length d] w fun e w' => e = .returned (.bool (decide (l.length ≤ 150) && decide (xs.length ≤ 50))) ∧ Below w.heap.size w w' := by
  have h : pomadelaw02_few.f l xs = some (decide (l.length ≤ 150) && decide (xs.length ≤ 50)) := by
    unfold pomadelaw02_few.f
    by_cases h : l.length ≤ 150
    · rw [if_pos (by omega), decide_eq_true h, Bool.true_and]
      congr 1
      rw [decide_eq_decide]; omega
    · rw [if_neg (by omega), decide_eq_false h]; rfl
  exact (pomadelaw02_few.calls A c l B d xs _ w hA hc hB hd h).mono fun e w' h => ⟨h.1, h.2.below⟩
theorem few_nil (A : Option Addr) (c : Nat) (l : List S43) (w : World) (hA : Kd.C k43 w A l.length l) (hc : l.length ≤ c) :
    Calls Try.prog 14 #[.slice A l.length c, .slice none 0 0] w fun e w' => e = .returned (.bool (decide (l.length ≤ 150))) ∧ Below w.heap.size w w' := by
  have h := few_any A none c 0 l [] w hA hc ⟨rfl, by simp, fun h => absurd h (by simp)⟩ (Nat.le_refl _)
  simpa using h
end Go.Proofs.Ytmobefgnkiboaaa.Im

namespace Go.Proofs.Ytmobefgnkiboaaa.Im
open Go.RowKit Go.Proofs.YtmobefgnkiboaaaW.PrintWords Go.Proofs.YtmobefgnkiboaaaW.PrintLast Go.Proofs.YtmobefgnkiboaaaW.PrintMore
set_option linter.unusedVariables false
theorem less_any (xs ys : List Int) (A : Option Addr) (c : Nat) (D : Option Addr) (d : Nat) (w : World) (hx : xs.length < 1000000) (hy : ys.length < 1000000) (h1 : Kd.C (Kd.int .i64) w A xs.length xs) (h2 : xs.length ≤ c) (h3 : Kd.C (Kd.int .i64) w D ys.length ys) (h4 : ys.length ≤ d) :
    Calls Try.prog 36 #[.slice A xs.length c, .slice D ys.length d] w fun e w' => e = .returned (.bool (lessB xs ys)) ∧ Below w.heap.size w w' := by
  obtain ⟨k0, hk0⟩ := Less_g xs ys hx hy
  refine (pomaderef01_Less.calls k0 A c xs D d ys _ w h1 h2 h3 h4 (hk0 k0 (Nat.le_refl _))).mono fun e w' h => ?_
  first
    | exact h
    | exact ⟨h.1, h.2.below⟩
end Go.Proofs.Ytmobefgnkiboaaa.Im

namespace Go.Proofs.Ytmobefgnkiboaaa.Im
open Go.RowKit Go.Proofs.YtmobefgnkiboaaaW.PrintWords Go.Proofs.YtmobefgnkiboaaaW.PrintLast Go.Proofs.YtmobefgnkiboaaaW.PrintMore
set_option linter.unusedVariables false
theorem memS_any (s : Nat) (w : World) (hs : s < 4096) : Calls Try.prog 53 #[.int .i64 s] w (MemPost (memL s) w) := by
  obtain ⟨k0, hk0⟩ := members_g s hs
  exact (pomaderef01_Members.calls k0 s _ w (hk0 k0 (Nat.le_refl _))).mono fun _ _ ⟨v, h1, h2, h3⟩ => ⟨v, h1, h2, h3⟩
theorem memL_pos {s : Nat} (hs : s < 4096) (h0 : 0 < s) : 0 < (memL s).length := by
  rcases Nat.eq_zero_or_pos (memL s).length with h | h
  · have := memL_nil hs (List.eq_nil_of_length_eq_zero h); omega
  · exact h
def BestV (w : World) (b : Option Nat) (v : Value) : Prop :=
  match b with
  | none => v = .slice none 0 0
  | some t => ∃ A c, v = .slice (some A) (memL t).length c ∧ (memL t).length ≤ c ∧ Kd.C (Kd.int .i64) w (some A) (memL t).length (ints (memL t))
set_option maxHeartbeats 3200000 in
set_option maxRecDepth 100000 in
theorem first64_any (S : List Nat) (hS : ∀ s ∈ S, s < 4096 ∧ 0 < s) (A : Option Addr) (c : Nat) (w : World) (hr : Kd.C (Kd.int .i64) w A S.length (ints S)) (hc : S.length ≤ c) (hl : S.length < 1000000) :
    Calls Try.prog 64 #[.slice A S.length c] w (FoundP w ((bestS S).map memL)) := by
  have qe : ∀ (w : World) (a : Option Addr) (n c n' c' : Nat), (binOp .eql 25 (.slice a n c) (.slice none n' c')).run Try.prog w = .ok (.bool a.isNone) w := fun w a n c n' c' => Lib.run_eql_slice_nil w _ _ a n c n' c' Try.underlying25
  have HR := Aside0.mk hr
  have HS := Aside0.mk hS
  clear hr hS
  go_enter Try.func64, Try.ntmps64
  go_wp2_with fail
  go_loopw [3, 4] (fun vb v wr => ∃ k : Nat, k ≤ S.length ∧ v = .int .i64 (k : Int) ∧ Aside0 (BestV wr (bestS (S.take k)) vb ∧ ∀ t, bestS (S.take k) = some t → t ∈ S) ∧ Aside0 (Below w.heap.size w wr)) (fun _ v _ => S.length - (intOf v).toNat)
  case atStart => exact ⟨0, Nat.zero_le _, rfl, ⟨rfl, fun t h => by cases h⟩, ⟨Below.refl _ _⟩⟩
  case round =>
    obtain ⟨k, hk, rfl, HV, HB⟩ := hrel
    by_cases hkl : k < S.length
    · obtain ⟨ad, e0, cx⟩ := Kd.at_int (Kd.C_below HR.out HB.out) (k : Int) (by omega) (by omega)
      cases e0
      rw [rd_ints, Int.toNat_natCast] at cx
      have hsg : S.getD k 0 = S[k] := by rw [List.getD_eq_getElem?_getD, List.getElem?_eq_getElem hkl]; rfl
      have hsm : S.getD k 0 ∈ S := by rw [hsg]; exact List.getElem_mem _
      have hsn : bestS (S.take (k + 1)) = pick (bestS (S.take k)) (S.getD k 0) := by rw [List.take_succ_eq_append_getElem hkl, bestS_snoc, hsg]
      have HSN := Aside0.mk hsn
      obtain ⟨hs1, hs2⟩ := HS.out _ hsm
      have HSM := Aside0.mk hsm
      have hpos := memL_pos hs1 hs2
      have hm12 := memL_len (S.getD k 0)
      have HM := Aside0.mk (fun w => memS_any (S.getD k 0) w hs1)
      generalize S.getD k 0 = s at *
      clear hsg hsm hsn
      go_wp2_with fail
      refine (HM.out _).mono ?_
      rintro e w2 ⟨v2, rfl, h2, hb2⟩
      obtain ⟨A2, c2, rfl, hc2, hC2⟩ := Kd.R_reads h2
      rw [ints_length] at hc2 hC2 ⊢
      obtain ⟨a2, rfl⟩ := C_some (by rw [ints_length]; exact hC2) (by rw [ints_length]; exact hpos)
      have HB2 := Aside0.mk (below_then HB.out HB.out.size hb2)
      have HC2 := Aside0.mk hC2
      obtain ⟨B, hB⟩ : ∃ B, bestS (S.take k) = B := ⟨_, rfl⟩
      rw [hB] at HV HSN
      clear h2 hC2 hB
      cases B with
      | none =>
        obtain ⟨rfl, _⟩ := HV.out
        go_wp2_with fail
        go_roundw
        case rel => exact ⟨k + 1, by omega, by go_num, ⟨by rw [HSN.out]; exact ⟨a2, c2, rfl, hc2, HC2.out⟩, fun t h => by rw [HSN.out] at h; cases h; exact HSM.out⟩, HB2⟩
        case measure => simp [intOf]; try omega
      | some t =>
        obtain ⟨⟨a3, c3, rfl, hc3, hC3⟩, hts⟩ := HV.out
        have HC3 := Aside0.mk (Kd.C_below hC3 hb2)
        have HTS := Aside0.mk (hts t rfl)
        have ht12 := memL_len t
        have hL := less_any (ints (memL s)) (ints (memL t)) (some a2) c2 (some a3) c3 w2 (by rw [ints_length]; omega) (by rw [ints_length]; omega) (by rw [ints_length]; exact HC2.out) (by rw [ints_length]; exact hc2) (by rw [ints_length]; exact HC3.out) (by rw [ints_length]; exact hc3)
        rw [ints_length, ints_length] at hL
        clear hC3 hts HV hb2
        cases hx : lessB (ints (memL s)) (ints (memL t)) with
        | true =>
          rw [hx] at hL
          have HL := Aside0.mk hL
          have HN : Aside0 (bestS (S.take (k + 1)) = some s) := ⟨by rw [HSN.out]; unfold pick; simp only [hx, if_true]⟩
          clear hL hx HSN
          go_wp2_with fail
          refine HL.out.mono ?_
          rintro e w4 ⟨rfl, hb4⟩
          have HB4 := Aside0.mk (below_then HB2.out HB2.out.size hb4)
          have HC4 := Aside0.mk (Kd.C_below HC2.out hb4)
          clear hb4
          go_wp2_with fail
          go_roundw
          case rel => exact ⟨k + 1, by omega, by go_num, ⟨by rw [HN.out]; exact ⟨a2, c2, rfl, hc2, HC4.out⟩, fun t h => by rw [HN.out] at h; cases h; exact HSM.out⟩, HB4⟩
          case measure => simp [intOf]; try omega
        | false =>
          rw [hx] at hL
          have HL := Aside0.mk hL
          have HN : Aside0 (bestS (S.take (k + 1)) = some t) := ⟨by rw [HSN.out]; unfold pick; simp only [hx]; rfl⟩
          clear hL hx HSN
          go_wp2_with fail
          refine HL.out.mono ?_
          rintro e w4 ⟨rfl, hb4⟩
          have HB4 := Aside0.mk (below_then HB2.out HB2.out.size hb4)
          have HC4 := Aside0.mk (Kd.C_below HC3.out hb4)
          clear hb4
          go_wp2_with fail
          go_roundw
          case rel => exact ⟨k + 1, by omega, by go_num, ⟨by rw [HN.out]; exact ⟨a3, c3, rfl, hc3, HC4.out⟩, fun t h => by rw [HN.out] at h; cases h; exact HTS.out⟩, HB4⟩
          case measure => simp [intOf]; try omega
    · obtain rfl : k = S.length := by omega
      rw [List.take_length] at HV
      go_wp2_with fail
      go_ret
      cases hB : bestS S with
      | none =>
        rw [hB] at HV
        obtain ⟨rfl, _⟩ := HV.out
        exact ⟨rfl, HB.out⟩
      | some t =>
        rw [hB] at HV
        obtain ⟨⟨a3, c3, rfl, hc3, hC3⟩, hts⟩ := HV.out
        exact ⟨a3, c3, by rw [ints_length]; rfl, by rw [ints_length]; exact hc3, by rw [ints_length]; exact hC3, HB.out⟩
end Go.Proofs.Ytmobefgnkiboaaa.Im

namespace Go.Proofs.Ytmobefgnkiboaaa.Im
open Go.RowKit Go.Proofs.YtmobefgnkiboaaaW.PrintWords Go.Proofs.YtmobefgnkiboaaaW.PrintLast Go.Proofs.YtmobefgnkiboaaaW.PrintMore
set_option linter.unusedVariables false
/-- A list and an error; with an error the list is empty. -/
def OutO (r : List Nat) (er : Int) (w : World) (e : Ending) (w' : World) : Prop :=
  ∃ A c, e = .returned (.tuple #[.slice A r.length c, .int .i64 er]) ∧ r.length ≤ c ∧ Kd.C (Kd.int .i64) w' A r.length (ints r) ∧ Below w.heap.size w w'
def listF (n : Int) (l : List S43) (x : Option (List Nat)) : List Nat := if ofE n l = 0 then x.getD [] else []
def errF (n : Int) (l : List S43) (x : Option (List Nat)) : Int := if ofE n l = 0 then (if x.isSome then 0 else 10) else ofE n l
theorem outO_nil (er : Int) (w w' : World) (h : Below w.heap.size w w') : OutO [] er w (.returned (.tuple #[.slice none 0 0, .int .i64 er])) w' :=
  ⟨none, 0, rfl, Nat.le_refl _, C_nil w', h⟩
theorem outO_of {n : Int} {l : List S43} {w : World} {x : Option (List Nat)} {e : Ending} {w' : World}
    (h : if ofE n l = 0 then FoundE w x e w' else e = .returned (.tuple #[.slice none 0 0, .int .i64 (ofE n l)]) ∧ Below w.heap.size w w') : OutO (listF n l x) (errF n l x) w e w' := by
  unfold listF errF
  by_cases he : ofE n l = 0
  · rw [if_pos he] at h
    rw [if_pos he, if_pos he]
    cases x with
    | none => obtain ⟨rfl, h2⟩ := h; exact outO_nil _ _ _ h2
    | some r =>
      obtain ⟨A, c, rfl, h2, h3, h4⟩ := h
      rw [ints_length] at h2 h3 ⊢
      exact ⟨some A, c, rfl, h2, h3, h4⟩
  · rw [if_neg he] at h
    rw [if_neg he, if_neg he]
    obtain ⟨rfl, h2⟩ := h; exact outO_nil _ _ _ h2
theorem outO_first {n : Int} {l : List S43} {w : World} {x : Option Nat} {e : Ending} {w' : World}
    (h : if ofE n l = 0 then FirstR w x e w' else e = .returned (.tuple #[.slice none 0 0, .int .i64 (ofE n l)]) ∧ Below w.heap.size w w') : OutO (listF n l (x.map memL)) (errF n l (x.map memL)) w e w' := by
  unfold listF errF
  by_cases he : ofE n l = 0
  · rw [if_pos he] at h
    rw [if_pos he, if_pos he]
    cases x with
    | none => obtain ⟨rfl, h2⟩ := h; exact outO_nil _ _ _ h2
    | some r =>
      obtain ⟨v, rfl, h2, h3⟩ := h
      obtain ⟨A, c, rfl, h4, h5⟩ := Kd.R_reads h2
      rw [ints_length] at h4 h5 ⊢
      exact ⟨A, c, rfl, h4, h5, h3⟩
  · rw [if_neg he] at h
    rw [if_neg he, if_neg he]
    obtain ⟨rfl, h2⟩ := h; exact outO_nil _ _ _ h2
end Go.Proofs.Ytmobefgnkiboaaa.Im

namespace Go.Proofs.Ytmobefgnkiboaaa.Im
open Go.RowKit Go.Proofs.YtmobefgnkiboaaaW.PrintWords Go.Proofs.YtmobefgnkiboaaaW.PrintLast Go.Proofs.YtmobefgnkiboaaaW.PrintMore
set_option linter.unusedVariables false
def okS (o : List Nat) (p s a b : Nat) : Bool := !(s.testBit a && (o.getD a 0 &&& p).testBit b && (o.getD b 0 &&& s == 0))
def semiB (n : Nat) (o : List Nat) (p s : Nat) : Bool := ((List.range n).all fun a => (List.range n).all fun b => okS o p s a b) && (decide (0 < s) && (List.range n).all (indB o s))
section
variable (n : Nat) (o : List Nat) (ok : Okt n o) (p s : Nat) (hp : p < 4096) (hs : s < 4096)
include ok hp hs
theorem semi_l1 (a : Nat) (ha : a < n) (R : Bool) (hno : (∃ b, b < n ∧ okS o p s a b = false) → R = false)
    (hg : (∀ b, b < n → okS o p s a b = true) → Gives (fun k => pomaderef02_semi.l0 k (ints (o.take n)) p s ((a + 1 : Nat) : Int)) R) :
    ∀ (d b : Nat), b + d = n → (∀ j, j < b → okS o p s a j = true) → Gives (fun k => pomaderef02_semi.l1 k (ints (o.take n)) p s a b) R
  | 0, b, h, hq => by
    have hTl := takes_len ok
    have n12 := ok.n12
    refine (hg (fun b' hb' => hq b' (by omega))).step fun k hk => ?_
    simp only [pomaderef02_semi.l1]
    rw [if_neg (by omega), wr_succ a (by omega)]
    exact hk
  | d + 1, b, h, hq => by
    have hTl := takes_len ok
    have n12 := ok.n12
    have hoa := ok.lt12 a
    have hob := ok.lt12 b
    have next : okS o p s a b = true → Gives (fun k => pomaderef02_semi.l1 k (ints (o.take n)) p s a ((b + 1 : Nat) : Int)) R := fun hb =>
      semi_l1 a ha R hno hg d (b + 1) (by omega) (fun j hj => by
        rcases Nat.lt_or_ge j b with h1 | h1
        · exact hq j h1
        · obtain rfl : j = b := by omega
          exact hb)
    cases h1 : s.testBit a
    · refine (next (by unfold okS; rw [h1]; rfl)).step fun k hk => ?_
      simp only [pomaderef02_semi.l1]
      rw [if_pos (by omega), if_pos (by omega), if_neg (by rw [tbit1 _ _ (by omega), h1]; simp), wr_succ b (by omega)]
      exact hk
    · have hand : o.getD a 0 &&& p < 4096 := Nat.lt_of_le_of_lt Nat.and_le_left hoa
      cases h2 : (o.getD a 0 &&& p).testBit b
      · refine (next (by unfold okS; rw [h1, h2]; rfl)).step fun k hk => ?_
        simp only [pomaderef02_semi.l1]
        rw [if_pos (by omega), if_pos (by omega), if_pos (by rw [tbit1 _ _ (by omega), h1]), if_pos (by omega), if_pos (by omega), rd_takes o n a ha, b_and _ _ (by omega) (by omega), if_neg (by rw [tbit1 _ _ (by omega), h2]; simp), wr_succ b (by omega)]
        exact hk
      · by_cases h0 : o.getD b 0 &&& s = 0
        · rw [hno ⟨b, by omega, by unfold okS; rw [h1, h2, h0]; rfl⟩]
          refine Gives.now fun k => ?_
          simp only [pomaderef02_semi.l1]
          rw [if_pos (by omega), if_pos (by omega), if_pos (by rw [tbit1 _ _ (by omega), h1]), if_pos (by omega), if_pos (by omega), rd_takes o n a ha, b_and _ _ (by omega) (by omega), if_pos (by rw [tbit1 _ _ (by omega), h2]), rd_takes o n b (by omega), b_and _ _ (by omega) (by omega), if_pos (by omega)]
        · refine (next (by unfold okS; rw [h1, h2, beq_eq_false_iff_ne.2 h0]; rfl)).step fun k hk => ?_
          simp only [pomaderef02_semi.l1]
          rw [if_pos (by omega), if_pos (by omega), if_pos (by rw [tbit1 _ _ (by omega), h1]), if_pos (by omega), if_pos (by omega), rd_takes o n a ha, b_and _ _ (by omega) (by omega), if_pos (by rw [tbit1 _ _ (by omega), h2]), rd_takes o n b (by omega), b_and _ _ (by omega) (by omega), if_neg (by omega), wr_succ b (by omega)]
          exact hk
theorem semi_l0 : ∀ (d a : Nat), a + d = n → (∀ j, j < a → ∀ b, b < n → okS o p s j b = true) → Gives (fun k => pomaderef02_semi.l0 k (ints (o.take n)) p s a) (semiB n o p s)
  | 0, a, h, hq => by
    have hTl := takes_len ok
    have e : semiB n o p s = (decide (0 < s) && (List.range n).all (indB o s)) := by
      unfold semiB
      have : ((List.range n).all fun a => (List.range n).all fun b => okS o p s a b) = true := by
        rw [List.all_eq_true]; intro x hx; rw [List.all_eq_true]; intro y hy
        exact hq x (by have := List.mem_range.1 hx; omega) y (List.mem_range.1 hy)
      rw [this, Bool.true_and]
    rw [e]
    refine (ind_g n o ok s hs).step fun k hk => ?_
    simp only [pomaderef02_semi.l0]
    rw [if_neg (by omega)]
    by_cases h0 : 0 < s
    · rw [if_pos (by omega), hk, Option.bind_some, decide_eq_true h0, Bool.true_and]
    · rw [if_neg (by omega), decide_eq_false h0, Bool.false_and]
  | d + 1, a, h, hq => by
    have hTl := takes_len ok
    refine (semi_l1 n o ok p s hp hs a (by omega) (semiB n o p s) (fun ⟨b, hb, hf⟩ => ?_) (fun hb => ?_) n 0 (by omega) (fun j hj => by omega)).step fun k hk => ?_
    · unfold semiB
      have : ((List.range n).all fun a => (List.range n).all fun b => okS o p s a b) = false := by
        rw [List.all_eq_false]
        refine ⟨a, List.mem_range.2 (by omega), ?_⟩
        rw [Bool.not_eq_true, List.all_eq_false]
        exact ⟨b, List.mem_range.2 hb, by rw [hf]; simp⟩
      rw [this, Bool.false_and]
    · exact semi_l0 d (a + 1) (by omega) (fun j hj => by
        rcases Nat.lt_or_ge j a with h1 | h1
        · exact hq j h1
        · obtain rfl : j = a := by omega
          exact hb)
    · simp only [pomaderef02_semi.l0]
      rw [if_pos (by omega)]
      exact hk
theorem semi_g : Gives (fun k => pomaderef02_semi.f k (ints (o.take n)) p s) (semiB n o p s) := semi_l0 n o ok p s hp hs n 0 (by omega) (fun j hj => by omega)
end
end Go.Proofs.Ytmobefgnkiboaaa.Im

namespace Go.Proofs.Ytmobefgnkiboaaa.Im
open Go.RowKit Go.Proofs.YtmobefgnkiboaaaW.PrintWords Go.Proofs.YtmobefgnkiboaaaW.PrintLast Go.Proofs.YtmobefgnkiboaaaW.PrintMore
set_option linter.unusedVariables false
def reachL (o M : List Nat) (r : Nat) : Nat := M.foldl (fun r i => r ||| o.getD i 0) r
theorem reachL_bit (o : List Nat) (b : Nat) : ∀ (M : List Nat) (r : Nat), (reachL o M r).testBit b = (r.testBit b || M.any fun i => (o.getD i 0).testBit b)
  | [], r => by simp [reachL]
  | i :: M, r => by
    show (reachL o M (r ||| o.getD i 0)).testBit b = _
    rw [reachL_bit o b M, Nat.testBit_or, List.any_cons, Bool.or_assoc]
def semB (n : Nat) (o : List Nat) (s : Nat) : Bool := s != 0 && AllB n (indB o s) (absB o s (reachL o (memL s) 0))
theorem semB_eq {n : Nat} {o : List Nat} (ok : Okt n o) (s : Nat) (hs : s < 2 ^ n) : semB n o s = semiB n o (2 ^ n - 1) s := by
  have n12 := ok.n12
  have bitN : ∀ {x i : Nat}, x < 2 ^ n → x.testBit i = true → i < n := fun {x i} hx hb => by
    rcases Nat.lt_or_ge i n with h | h
    · exact h
    · rw [Nat.testBit_lt_two_pow (Nat.lt_of_lt_of_le hx (Nat.pow_le_pow_right (by decide) h))] at hb; cases hb
  rw [Bool.eq_iff_iff]
  unfold semB semiB AllB
  rw [Bool.and_eq_true, Bool.and_eq_true, Bool.and_eq_true, List.all_eq_true, List.all_eq_true, List.all_eq_true, decide_eq_true_eq, bne_iff_ne]
  have hr : ∀ b, (reachL o (memL s) 0).testBit b = true ↔ ∃ a, a < n ∧ s.testBit a = true ∧ (o.getD a 0).testBit b = true := fun b => by
    rw [reachL_bit, Nat.zero_testBit, Bool.false_or, List.any_eq_true]
    constructor
    · rintro ⟨a, ha, hb⟩
      rw [memL_mem] at ha
      exact ⟨a, bitN hs ha.2, ha.2, hb⟩
    · rintro ⟨a, ha, h1, h2⟩
      exact ⟨a, (memL_mem s a).2 ⟨by omega, h1⟩, h2⟩
  constructor
  · rintro ⟨h0, h1⟩
    refine ⟨fun a ha => ?_, by omega, fun a ha => ?_⟩
    · rw [List.all_eq_true]
      intro b hb
      have ha' := List.mem_range.1 ha
      have hb' := List.mem_range.1 hb
      have q := h1 b hb
      rw [Bool.and_eq_true] at q
      have qa := h1 a ha
      rw [Bool.and_eq_true] at qa
      unfold okS
      cases e1 : s.testBit a with
      | false => rfl
      | true =>
        cases e2 : (o.getD a 0 &&& (2 ^ n - 1)).testBit b with
        | false => rfl
        | true =>
          have e3 : (o.getD a 0).testBit b = true := by rw [Nat.testBit_and, Bool.and_eq_true] at e2; exact e2.1
          have hre := (hr b).2 ⟨a, ha', e1, e3⟩
          have hsb : s.testBit b = false := by
            cases e4 : s.testBit b with
            | false => rfl
            | true =>
              have q1 := qa.1
              unfold indB at q1
              rw [e1] at q1
              have q2 : o.getD a 0 &&& s = 0 := by simpa using q1
              exact absurd ⟨e3, e4⟩ ((land_zero _ _).1 q2 b)
          have q1 := q.2
          unfold absB at q1
          rw [hre, hsb] at q1
          have q2 : o.getD b 0 &&& s ≠ 0 := by simpa using q1
          rw [beq_eq_false_iff_ne.2 q2]
          rfl
    · have q := h1 a ha
      rw [Bool.and_eq_true] at q
      exact q.1
  · rintro ⟨h1, h0, h2⟩
    refine ⟨by omega, fun b hb => ?_⟩
    rw [Bool.and_eq_true]
    refine ⟨h2 b hb, ?_⟩
    unfold absB
    cases e1 : (reachL o (memL s) 0).testBit b with
    | false => rfl
    | true =>
      cases e2 : s.testBit b with
      | true => rfl
      | false =>
        obtain ⟨a, ha, h3, h4⟩ := (hr b).1 e1
        have q := h1 a (List.mem_range.2 ha)
        rw [List.all_eq_true] at q
        have q1 := q b hb
        unfold okS at q1
        have e3 : (o.getD a 0 &&& (2 ^ n - 1)).testBit b = true := by
          rw [Nat.testBit_and, h4, Nat.testBit_two_pow_sub_one, decide_eq_true (List.mem_range.1 hb)]; rfl
        rw [h3, e3] at q1
        have q2 : o.getD b 0 &&& s ≠ 0 := by simpa using q1
        simpa using q2
end Go.Proofs.Ytmobefgnkiboaaa.Im

namespace Go.Proofs.Ytmobefgnkiboaaa.Im
open Go.RowKit Go.Proofs.YtmobefgnkiboaaaW.PrintWords Go.Proofs.YtmobefgnkiboaaaW.PrintLast Go.Proofs.YtmobefgnkiboaaaW.PrintMore
set_option linter.unusedVariables false
theorem semiC_any (n : Nat) (o : List Nat) (p s : Nat) (A : Option Addr) (c : Nat) (w : World) (ok : Okt n o) (hp : p < 4096) (hs : s < 4096) (hr : Kd.C (Kd.int .i64) w A n (ints (o.take n))) (hc : n ≤ c) :
    Calls Try.prog 63 #[.slice A n c, .int .i64 p, .int .i64 s] w fun e w' => e = .returned (.bool (semiB n o p s)) ∧ Below w.heap.size w w' := by
  obtain ⟨k0, hk0⟩ := semi_g n o ok p s hp hs
  have h := pomaderef02_semi.calls k0 A c (ints (o.take n)) p s _ w (by rw [takes_len ok]; exact hr) (by rw [takes_len ok]; exact hc) (hk0 k0 (Nat.le_refl _))
  rw [takes_len ok] at h
  refine h.mono fun e w' h => ?_
  first
    | exact h
    | exact ⟨h.1, h.2.below⟩
def semL (n : Nat) (o : List Nat) (k : Nat) : List Nat := (List.range k).filter fun s => semB n o s
theorem semB_zero (n : Nat) (o : List Nat) : semB n o 0 = false := rfl
theorem semL_succ (n : Nat) (o : List Nat) (k : Nat) : semL n o (k + 1) = semL n o k ++ if semB n o k then [k] else [] := by
  unfold semL
  rw [List.range_succ, List.filter_append, List.filter_cons, List.filter_nil]
def semO (n : Int) (l : List S43) : Option (List Nat) := (firstS (fun s => semB n.toNat (townO l) s) n.toNat).map memL
theorem semO_eq {n : Int} {l : List S43} (he : ofE n l = 0) : semO n l = (bestS (semL n.toNat (townO l) (2 ^ n.toNat))).map memL := by
  have ok := okt_of he
  unfold semO
  rw [first_eq _ _ ok.n12 (semB_zero _ _)]
  rfl
set_option maxHeartbeats 1600000 in
set_option maxRecDepth 100000 in
theorem refSemi_any (n : Int) (A : Option Addr) (c : Nat) (l : List S43) (w : World) (hr : Kd.C k43 w A l.length l) (hc : l.length ≤ c) :
    Calls Try.prog 27 #[.int .i64 n, .slice A l.length c] w (OutO (listF n l (semO n l)) (errF n l (semO n l)) w) := by
  have HT := Aside0.mk (Town_any n A c l w hr hc)
  unfold TownPost at HT
  unfold listF errF
  by_cases he : ofE n l = 0
  · simp only [if_pos he] at HT ⊢
    rw [semO_eq he]
    have ok := okt_of he
    have HK := Aside0.mk ok
    have hnn := (ofE_ok he).1
    unfold townL at HT
    generalize townO l = o at *
    clear he hr
    obtain ⟨m, rfl⟩ : ∃ m : Nat, n = m := ⟨n.toNat, by omega⟩
    rw [Int.toNat_natCast] at *
    have n12 := ok.n12
    have h12 : (2 : Nat) ^ m ≤ 2 ^ 12 := Nat.pow_le_pow_right (by decide) n12
    have hp2 := Nat.two_pow_pos m
    have ew : wrap64 (wrap64 (2 ^ m) - 1) = ((2 ^ m - 1 : Nat) : Int) := by
      rw [wr_pow m (by omega), show ((2 ^ m : Nat) : Int) - 1 = ((2 ^ m - 1 : Nat) : Int) by omega, wr62' _ (by omega)]
    have ew2 : wrap64 (2 ^ m) = ((2 ^ m : Nat) : Int) := wr_pow m (by omega)
    have HC := Aside0.mk (fun (A : Option Addr) (c : Nat) (w : World) (s : Nat) (hs : s < 2 ^ m) h1 h2 => by
      have h := semiC_any m o (2 ^ m - 1) s A c w ok (by omega) (by omega) h1 h2
      rw [← semB_eq ok s hs] at h
      exact h)
    have hS : ∀ s ∈ semL m o (2 ^ m), s < 4096 ∧ 0 < s := fun s hs => by
      unfold semL at hs
      rw [List.mem_filter, List.mem_range] at hs
      refine ⟨by omega, ?_⟩
      rcases Nat.eq_zero_or_pos s with h | h
      · rw [h, semB_zero] at hs; simp at hs
      · exact h
    have hSl : ∀ k, (semL m o k).length ≤ k := fun k => by
      have := List.length_filter_le (fun s => semB m o s) (List.range k)
      rw [List.length_range] at this
      exact this
    have HSL := Aside0.mk hSl
    generalize hP : 2 ^ m = P at *
    have hP1 : 1 ≤ P := hp2
    have hP2 : P ≤ 4096 := h12
    have HPm : Aside0 (2 ^ m = P) := ⟨hP⟩
    have eP : ((P - 1 : Nat) : Int) = (P : Int) - 1 := by omega
    have ew3 : wrap64 ((P : Int) - 1) = (P : Int) - 1 := by unfold wrap64; omega
    rw [eP] at HC
    clear hP h12 hp2 hSl ok ew eP
    cases hK0 : semL m o P with
    | nil =>
      rw [show bestS [] = none from rfl]
      simp only [Option.map_none, Option.getD_none, Option.isSome_none, Bool.false_eq_true, if_false]
      have HE := Aside0.mk hK0
      clear hK0 hS
      go_enter Try.func27, Try.ntmps27
      go_wp2_with fail
      refine HT.out.mono ?_
      rintro e w1 ⟨A1, c1, rfl, hc1, hC1, hb1⟩
      have HB1 := Aside0.mk hb1
      have HC1 := Aside0.mk hC1
      clear hb1 hC1
      go_wp2_with fail
      go_loopw [8, 9] (fun vz v wr => ∃ k : Nat, 1 ≤ k ∧ k ≤ P ∧ v = .int .i64 (k : Int) ∧ Aside0 (Kd.R (Kd.int .i64) 3 wr w1.heap.size (fun _ => True) vz (ints (semL m o k))) ∧ Aside0 (Below w1.heap.size w1 wr)) (fun _ v _ => P - (intOf v).toNat)
      case atStart => exact ⟨1, Nat.le_refl _, hP1, rfl, ⟨Kd.R_nil (Kd.int .i64) 3 _ _ _⟩, ⟨Below.refl _ _⟩⟩
      case round =>
        obtain ⟨k, hk1, hk, rfl, HRz, HBz⟩ := hrel
        by_cases hkl : k < P
        · have hc := HC.out A1 c1 wr k hkl (Kd.C_below HC1.out HBz.out) hc1
          have hsn := semL_succ m o k
          have hll := HSL.out k
          have hil : (ints (semL m o k)).length ≤ k := by rw [ints_length]; exact hll
          cases hb : semB m o k with
          | true =>
            rw [hb] at hc
            rw [hb, if_pos rfl] at hsn
            have HSN : Aside0 (ints (semL m o (k + 1)) = ints (semL m o k) ++ [(k : Int)]) := ⟨by rw [hsn]; simp [ints]⟩
            have HCc := Aside0.mk hc
            clear hc hsn hb hll
            generalize ints (semL m o k) = L at *
            go_wp2_with fail
            refine HCc.out.mono ?_
            rintro e w2 ⟨rfl, hb2⟩
            have HRz2 := Aside0.mk (Kd.R_below HRz.out hb2)
            have HBz2 := Aside0.mk (below_then HBz.out HBz.out.size hb2)
            clear hb2
            go_wp2_with (first | ((with_reducible refine gate_builtin (b := .append) (xs := #[.tmp 31, .tmp 33]) rfl ?_); at_builtin; refine Kd.R_append (Kd.int .i64) (w0 := w1) w1.heap.size rfl (.tmp 31) (.tmp 33) 25 3 (.int .i64 0) 8 rfl Try.underlying25 info3 rfl (by decide) (by omega) u8 L k [.int .i64 k] (fun _ => True) (fun _ => False) rfl rfl rfl (fun _ hk => hk.elim) (fun _ _ => trivial) HRz2.out HBz2.out HBz2.out.size (by omega) ?_; intro v9 w9 ho hb hg hat; have HO9 := Aside0.mk ho; have HB9 := Aside0.mk hb; clear ho hb hg hat))
            go_roundw
            case rel => exact ⟨k + 1, by omega, by omega, by go_num, ⟨by rw [HSN.out]; exact HO9.out⟩, HB9⟩
            case measure => simp [intOf]; try omega
          | false =>
            rw [hb] at hc
            rw [hb, if_neg (by simp), List.append_nil] at hsn
            have HSN := Aside0.mk hsn
            have HCc := Aside0.mk hc
            clear hc hsn hb hll hil
            go_wp2_with fail
            refine HCc.out.mono ?_
            rintro e w2 ⟨rfl, hb2⟩
            have HRz2 := Aside0.mk (Kd.R_below HRz.out hb2)
            have HBz2 := Aside0.mk (below_then HBz.out HBz.out.size hb2)
            clear hb2
            go_wp2_with fail
            go_roundw
            case rel => exact ⟨k + 1, by omega, by omega, by go_num, ⟨by rw [HSN.out]; exact HRz2.out⟩, HBz2⟩
            case measure => simp [intOf]; try omega
        · obtain rfl : k = P := by omega
          obtain ⟨A9, c9, rfl, hl9, hC9⟩ := Kd.R_reads HRz.out
          have HBr := Aside0.mk (below_then HB1.out HB1.out.size HBz.out)
          rw [HE.out] at hl9 hC9 ⊢
          clear hC9
          go_wp2_with fail
          go_ret2
          exact outO_nil _ _ _ HBr.out
    | cons k0 K0 =>
      have hSl := HSL.out P
      have H64 := Aside0.mk (fun (A : Option Addr) (c : Nat) (w : World) h1 h2 => first64_any (semL m o P) hS A c w h1 h2 (by omega))
      obtain ⟨t, ht⟩ : ∃ t, bestS (semL m o P) = some t := by
        cases hb : bestS (semL m o P) with
        | some t => exact ⟨t, rfl⟩
        | none => have := ((best_spec (semL m o P) none).2 hb).1; rw [hK0] at this; cases this
      have hpos : 0 < (semL m o P).length := by rw [hK0]; simp
      rw [← hK0, ht]
      rw [ht] at H64
      simp only [Option.map_some, Option.getD_some, Option.isSome_some, if_true] at H64 ⊢
      generalize memL t = M at *
      have kne : (((semL m o P).length : Int) == 0) = false := beq_eq_false_iff_ne.2 (by omega)
      clear ht hK0 hS
      go_enter Try.func27, Try.ntmps27
      go_wp2_with fail
      refine HT.out.mono ?_
      rintro e w1 ⟨A1, c1, rfl, hc1, hC1, hb1⟩
      have HB1 := Aside0.mk hb1
      have HC1 := Aside0.mk hC1
      clear hb1 hC1
      go_wp2_with fail
      go_loopw [8, 9] (fun vz v wr => ∃ k : Nat, 1 ≤ k ∧ k ≤ P ∧ v = .int .i64 (k : Int) ∧ Aside0 (Kd.R (Kd.int .i64) 3 wr w1.heap.size (fun _ => True) vz (ints (semL m o k))) ∧ Aside0 (Below w1.heap.size w1 wr)) (fun _ v _ => P - (intOf v).toNat)
      case atStart => exact ⟨1, Nat.le_refl _, hP1, rfl, ⟨Kd.R_nil (Kd.int .i64) 3 _ _ _⟩, ⟨Below.refl _ _⟩⟩
      case round =>
        obtain ⟨k, hk1, hk, rfl, HRz, HBz⟩ := hrel
        by_cases hkl : k < P
        · have hc := HC.out A1 c1 wr k hkl (Kd.C_below HC1.out HBz.out) hc1
          have hsn := semL_succ m o k
          have hll := HSL.out k
          have hil : (ints (semL m o k)).length ≤ k := by rw [ints_length]; exact hll
          cases hb : semB m o k with
          | true =>
            rw [hb] at hc
            rw [hb, if_pos rfl] at hsn
            have HSN : Aside0 (ints (semL m o (k + 1)) = ints (semL m o k) ++ [(k : Int)]) := ⟨by rw [hsn]; simp [ints]⟩
            have HCc := Aside0.mk hc
            clear hc hsn hb hll
            generalize ints (semL m o k) = L at *
            go_wp2_with fail
            refine HCc.out.mono ?_
            rintro e w2 ⟨rfl, hb2⟩
            have HRz2 := Aside0.mk (Kd.R_below HRz.out hb2)
            have HBz2 := Aside0.mk (below_then HBz.out HBz.out.size hb2)
            clear hb2
            go_wp2_with (first | ((with_reducible refine gate_builtin (b := .append) (xs := #[.tmp 31, .tmp 33]) rfl ?_); at_builtin; refine Kd.R_append (Kd.int .i64) (w0 := w1) w1.heap.size rfl (.tmp 31) (.tmp 33) 25 3 (.int .i64 0) 8 rfl Try.underlying25 info3 rfl (by decide) (by omega) u8 L k [.int .i64 k] (fun _ => True) (fun _ => False) rfl rfl rfl (fun _ hk => hk.elim) (fun _ _ => trivial) HRz2.out HBz2.out HBz2.out.size (by omega) ?_; intro v9 w9 ho hb hg hat; have HO9 := Aside0.mk ho; have HB9 := Aside0.mk hb; clear ho hb hg hat))
            go_roundw
            case rel => exact ⟨k + 1, by omega, by omega, by go_num, ⟨by rw [HSN.out]; exact HO9.out⟩, HB9⟩
            case measure => simp [intOf]; try omega
          | false =>
            rw [hb] at hc
            rw [hb, if_neg (by simp), List.append_nil] at hsn
            have HSN := Aside0.mk hsn
            have HCc := Aside0.mk hc
            clear hc hsn hb hll hil
            go_wp2_with fail
            refine HCc.out.mono ?_
            rintro e w2 ⟨rfl, hb2⟩
            have HRz2 := Aside0.mk (Kd.R_below HRz.out hb2)
            have HBz2 := Aside0.mk (below_then HBz.out HBz.out.size hb2)
            clear hb2
            go_wp2_with fail
            go_roundw
            case rel => exact ⟨k + 1, by omega, by omega, by go_num, ⟨by rw [HSN.out]; exact HRz2.out⟩, HBz2⟩
            case measure => simp [intOf]; try omega
        · obtain rfl : k = P := by omega
          obtain ⟨A9, c9, rfl, hl9, hC9⟩ := Kd.R_reads HRz.out
          have HBr := Aside0.mk (below_then HB1.out HB1.out.size HBz.out)
          rw [ints_length] at hl9 hC9 ⊢
          have HC9 := Aside0.mk hC9
          clear hC9
          generalize semL m o k = K at *
          go_wp2_with fail
          refine (H64.out _ _ _ HC9.out hl9).mono ?_
          rintro e w3 ⟨A3, c3, rfl, hc3, hC3, hb3⟩
          have HB3 := Aside0.mk (below_then HBr.out HBr.out.size hb3)
          rw [ints_length] at hc3 hC3 ⊢
          have HC3 := Aside0.mk hC3
          clear hb3 hC3
          go_wp2_with fail
          go_ret2
          exact ⟨some A3, c3, rfl, hc3, HC3.out, HB3.out⟩
  · simp only [if_neg he] at HT ⊢
    have hb : (ofE n l != 0) = true := bne_iff_ne.2 he
    clear he
    generalize ofE n l = er at *
    go_enter Try.func27, Try.ntmps27
    go_wp2_with fail
    refine HT.out.mono ?_
    rintro e w1 ⟨A1, c1, rfl, hb1⟩
    have HB1 := Aside0.mk hb1
    clear hb1
    go_wp2_with fail
    go_ret2
    exact outO_nil _ _ _ HB1.out
end Go.Proofs.Ytmobefgnkiboaaa.Im

namespace Go.Proofs.Ytmobefgnkiboaaa.Im
open Go.RowKit Go.Proofs.YtmobefgnkiboaaaW.PrintWords Go.Proofs.YtmobefgnkiboaaaW.PrintLast Go.Proofs.YtmobefgnkiboaaaW.PrintMore
set_option linter.unusedVariables false
theorem reachL_snoc (o M : List Nat) (k : Nat) (h : k < M.length) : reachL o (M.take (k + 1)) 0 = reachL o (M.take k) 0 ||| o.getD (M.getD k 0) 0 := by
  rw [List.take_succ_eq_append_getElem h]
  unfold reachL
  rw [List.foldl_append]
  simp [h]
theorem reachL_lt {n : Nat} {o : List Nat} (ok : Okt n o) : ∀ (M : List Nat) (r : Nat), r < 2 ^ n → reachL o M r < 2 ^ n
  | [], r, h => h
  | i :: M, r, h => reachL_lt ok M _ (Nat.or_lt_two_pow h (ok.lt i))
theorem ex_neq0 {a : Act} {o : Oper} {x : Operand} (ho : o.op = .binOp .neq 3 x (.const (.int .i64 0)) 3) (w : World) (v : Int) (hx : a.eval x = .int .i64 v) :
    (execOp a.eval o).run Try.prog w = .ok (.value (.bool (v != 0))) w := by
  have h0 : a.eval (.const (.int .i64 0)) = .int .i64 0 := rfl
  have hl : (binOp .neq 3 (.int .i64 v) (.int .i64 0)).run Try.prog w = .ok (.bool (v != 0)) w := rfl
  have hg : (eqGuard .neq 3 x (.const (.int .i64 0)) (.int .i64 v) (.int .i64 0)).run Try.prog w = .ok () w := by
    first
      | kernel_rfl
      | (simp [eqGuard]; done)
      | (simp [eqGuard, Try.underlying43]; done)
  unfold execOp
  simp [ho, hx, h0, hl, hg, Result.andThen]
theorem ex_neq0' {a : Act} {o : Oper} {x : Operand} (ho : o.op = .binOp .neq 3 x (.const (.int .i64 0)) 3) (w : World) (v : Int) {b : Bool} (hb : (v != 0) = b) (hx : a.eval x = .int .i64 v) :
    (execOp a.eval o).run Try.prog w = .ok (.value (.bool b)) w := hb ▸ ex_neq0 ho w v hx
set_option maxHeartbeats 1600000 in
set_option maxRecDepth 100000 in
theorem semi1_any (n : Nat) (o : List Nat) (s g : Nat) (w : World) (ok : Okt n o) (hs : s < 4096) (ht : TnN w g n o) :
    Calls Try.prog 59 #[.int .i64 (s : Nat), .pointer (some ⟨g, 0, none⟩)] w fun e w' => e = .returned (.bool (semB n o s)) ∧ Below w.heap.size w w' := by
  have n12 := ok.n12
  have HT := Aside0.mk ht
  have HK := Aside0.mk ok
  have h2n : 2 ^ n ≤ 4096 := (Nat.pow_le_pow_right (by decide) n12 : 2 ^ n ≤ 2 ^ 12)
  have hlen := memL_len s
  have HM := Aside0.mk (fun (x : Nat) (hx : x ∈ memL s) => memL_lt hx)
  have HRL := Aside0.mk (fun k => reachL_lt ok ((memL s).take k) 0 (Nat.two_pow_pos n))
  obtain ⟨M, hM⟩ : ∃ M, memL s = M := ⟨_, rfl⟩
  have hm := members_any s w hs
  rw [show mem12 s 0 = M from hM] at hm
  rw [hM] at HM HRL hlen
  have hB : semB n o s = (s != 0 && AllB n (indB o s) (absB o s (reachL o M 0))) := by rw [← hM]; rfl
  rw [hB]
  have HMm := Aside0.mk hm
  clear hm hM hB ht ok
  go_enter Try.func59, Try.ntmps59
  go_wp2_with fail
  refine HMm.out.mono ?_
  rintro e w1 ⟨v, rfl, hr, hb⟩
  have HB := Aside0.mk hb
  have HT1 := Aside0.mk (Blk.later HT.out hb)
  obtain ⟨A, c, rfl, hlc, hC⟩ := Kd.R_reads hr
  have hil : (ints M).length = M.length := ints_length M
  have HC := Aside0.mk hC
  clear hC hr hb HT
  rw [hil] at hlc HC ⊢
  clear hil
  go_wp2_with fail
  go_loop [4, 10] (fun v4 v10 => ∃ k : Nat, k ≤ M.length ∧ v10 = .int .i64 (k : Int) ∧ v4 = .int .i64 (reachL o (M.take k) 0 : Nat)) (fun _ v10 => M.length - (intOf v10).toNat)
  case atStart => exact ⟨0, Nat.zero_le _, rfl, rfl⟩
  case round =>
    obtain ⟨k, hk, rfl, rfl⟩ := hrel
    have hrl := HRL.out k
    by_cases hkl : k < M.length
    · obtain ⟨ad, rfl, cm⟩ := Kd.at_int HC.out (k : Int) (by omega) (by omega)
      rw [rd_ints, Int.toNat_natCast] at cm
      have hj := HM.out (M.getD k 0) (by rw [List.getD_eq_getElem?_getD, List.getElem?_eq_getElem hkl]; exact List.getElem_mem hkl)
      have hsn := reachL_snoc o M k hkl
      obtain ⟨j, hjj⟩ : ∃ j, M.getD k 0 = j := ⟨_, rfl⟩
      rw [hjj] at cm hj hsn
      have co := TnN.cellS HT1.out j (by rw [HK.out.len]; exact hj)
      have holt := HK.out.lt12 j
      obtain ⟨oj, hoj⟩ : ∃ oj, o.getD j 0 = oj := ⟨_, rfl⟩
      rw [hoj] at co holt hsn
      rw [Nat.add_comm j 1] at co
      have j0 : (0 : Int) ≤ j := by omega
      have j1 : (j : Int) < 12 := by omega
      have hor := b_or (reachL o (M.take k) 0) oj (by omega) (by omega)
      have HSN : Aside0 ((reachL o (M.take (k + 1)) 0 : Nat) = bits .or .i64 (reachL o (M.take k) 0 : Nat) (oj : Nat)) := ⟨by rw [hsn]; exact hor.symm⟩
      clear hsn hjj hoj hor
      generalize reachL o (M.take k) 0 = r at *
      go_wp2_with fail
      go_round
      case rel => exact ⟨k + 1, by omega, by go_num, by rw [HSN.out]⟩
      case measure => simp [intOf]; omega
    · obtain rfl : k = M.length := by omega
      rw [List.take_length] at hrl ⊢
      obtain ⟨r, hr⟩ : ∃ r, reachL o M 0 = r := ⟨_, rfl⟩
      rw [hr] at hrl ⊢
      have HRr := Aside0.mk hr
      clear hr
      go_wp2_with fail
      have hb0 : Below w.heap.size w w1.drew := below_drew HB.out
      have hT0 : TnN w1.drew g n o := HT1.out
      refine wp_region_held (S := fun wx => TnN wx g n o ∧ Below w.heap.size w wx) (by kernel_rfl) ?_
      have HS : TnN w1.drew g n o ∧ Below w.heap.size w w1.drew := ⟨hT0, hb0⟩
      by_cases h0 : s = 0
      · obtain rfl := h0
        refine tk (i := 0) 21 (v := .int .i64 (0 : Nat)) rfl rfl (by kernel_rfl) (by kernel_rfl) (by kernel_rfl) (fun _ _ _ h => h) (by kernel_rfl) (fun wx _ => by kernel_rfl) HS ?_
        simp only [pt_lit, List.set_cons_succ, List.set_cons_zero]
        refine tk (i := 1) 22 (v := .bool false) rfl rfl (by kernel_rfl) (by kernel_rfl) (by kernel_rfl) (fun _ _ _ h => h) (by kernel_rfl) (fun wx _ => ex_neq0 rfl wx 0 rfl) HS ?_
        simp only [pt_lit, List.set_cons_succ, List.set_cons_zero]
        refine tk (i := 2) 23 (v := .bool false) rfl rfl (by kernel_rfl) (by kernel_rfl) (by kernel_rfl) (fun _ _ _ h => h) (by kernel_rfl) (fun wx _ => by kernel_rfl) HS ?_
        simp only [pt_lit, List.set_cons_succ, List.set_cons_zero]
        refine tk_not (i := 3) 24 rfl rfl (by kernel_rfl) (by kernel_rfl) (by kernel_rfl) (fun _ _ _ h => h) (by kernel_rfl) HS ?_
        simp only [pt_lit, List.set_cons_succ, List.set_cons_zero]
        refine tk_not (i := 4) 25 rfl rfl (by kernel_rfl) (by kernel_rfl) (by kernel_rfl) (fun _ _ _ h => h) (by kernel_rfl) HS ?_
        simp only [pt_lit, List.set_cons_succ, List.set_cons_zero]
        refine tk_not (i := 5) 26 rfl rfl (by kernel_rfl) (by kernel_rfl) (by kernel_rfl) (fun _ _ _ h => h) (by kernel_rfl) HS ?_
        simp only [pt_lit, List.set_cons_succ, List.set_cons_zero]
        refine tk_not (i := 6) 27 rfl rfl (by kernel_rfl) (by kernel_rfl) (by kernel_rfl) (fun _ _ _ h => h) (by kernel_rfl) HS ?_
        simp only [pt_lit, List.set_cons_succ, List.set_cons_zero]
        refine tk_not (i := 7) 28 rfl rfl (by kernel_rfl) (by kernel_rfl) (by kernel_rfl) (fun _ _ _ h => h) (by kernel_rfl) HS ?_
        simp only [pt_lit, List.set_cons_succ, List.set_cons_zero]
        refine tk_not (i := 8) 29 rfl rfl (by kernel_rfl) (by kernel_rfl) (by kernel_rfl) (fun _ _ _ h => h) (by kernel_rfl) HS ?_
        simp only [pt_lit, List.set_cons_succ, List.set_cons_zero]
        refine tk_not (i := 9) 30 rfl rfl (by kernel_rfl) (by kernel_rfl) (by kernel_rfl) (fun _ _ _ h => h) (by kernel_rfl) HS ?_
        simp only [pt_lit, List.set_cons_succ, List.set_cons_zero]
        refine tk_not (i := 10) 31 rfl rfl (by kernel_rfl) (by kernel_rfl) (by kernel_rfl) (fun _ _ _ h => h) (by kernel_rfl) HS ?_
        simp only [pt_lit, List.set_cons_succ, List.set_cons_zero]
        refine tk_not (i := 11) 32 rfl rfl (by kernel_rfl) (by kernel_rfl) (by kernel_rfl) (fun _ _ _ h => h) (by kernel_rfl) HS ?_
        simp only [pt_lit, List.set_cons_succ, List.set_cons_zero]
        refine tk_not (i := 12) 33 rfl rfl (by kernel_rfl) (by kernel_rfl) (by kernel_rfl) (fun _ _ _ h => h) (by kernel_rfl) HS ?_
        simp only [pt_lit, List.set_cons_succ, List.set_cons_zero]
        refine tk (i := 13) 34 (v := .bool false) rfl rfl (by kernel_rfl) (by kernel_rfl) (by kernel_rfl) (fun _ _ _ h => h) (by kernel_rfl) (fun wx _ => by kernel_rfl) HS ?_
        simp only [pt_lit, List.set_cons_succ, List.set_cons_zero]
        refine tk (i := 14) 3 (v := .bool false) rfl rfl (by kernel_rfl) (by kernel_rfl) (by kernel_rfl) (fun _ _ _ h => h) (by kernel_rfl) (fun wx _ => by kernel_rfl) HS ?_
        simp only [pt_lit, List.set_cons_succ, List.set_cons_zero]
        refine wpAnyH_done (by kernel_rfl) ?_ _
        go_wp2_with fail
        go_ret
        exact ⟨rfl, HS.2⟩
      · have hne : ((s : Int) != 0) = true := bne_iff_ne.2 (by omega)
        refine tk (i := 0) 21 (v := .int .i64 (s : Nat)) rfl rfl (by kernel_rfl) (by kernel_rfl) (by kernel_rfl) (fun _ _ _ h => h) (by kernel_rfl) (fun wx _ => by kernel_rfl) HS ?_
        simp only [pt_lit, List.set_cons_succ, List.set_cons_zero]
        refine tk (i := 1) 22 (v := .bool true) rfl rfl (by kernel_rfl) (by kernel_rfl) (by kernel_rfl) (fun _ _ _ h => h) (by kernel_rfl) (fun wx _ => ex_neq0' rfl wx s hne rfl) HS ?_
        simp only [pt_lit, List.set_cons_succ, List.set_cons_zero]
        refine tk (i := 2) 23 (v := .bool true) rfl rfl (by kernel_rfl) (by kernel_rfl) (by kernel_rfl) (fun _ _ _ h => h) (by kernel_rfl) (fun wx _ => by kernel_rfl) HS ?_
        simp only [pt_lit, List.set_cons_succ, List.set_cons_zero]
        refine tk (i := 3) 24 (v := .agg (tnN n o)) rfl rfl (by kernel_rfl) (by kernel_rfl) (by kernel_rfl) (fun _ _ _ h => h) (by kernel_rfl) (fun wx h => ex_load_tn rfl wx g n o rfl h.1 HK.out.len) HS ?_
        simp only [pt_lit, List.set_cons_succ, List.set_cons_zero]
        refine tk (i := 4) 25 (v := .agg (tnN n o)) rfl rfl (by kernel_rfl) (by kernel_rfl) (by kernel_rfl) (fun _ _ _ h => h) (by kernel_rfl) (fun wx h => ex_load_tn rfl wx g n o rfl h.1 HK.out.len) HS ?_
        simp only [pt_lit, List.set_cons_succ, List.set_cons_zero]
        refine tk (i := 5) 26 (v := .int .i64 (s : Nat)) rfl rfl (by kernel_rfl) (by kernel_rfl) (by kernel_rfl) (fun _ _ _ h => h) (by kernel_rfl) (fun wx _ => by kernel_rfl) HS ?_
        simp only [pt_lit, List.set_cons_succ, List.set_cons_zero]
        refine tk (i := 7) 28 (v := .agg (tnN n o)) rfl rfl (by kernel_rfl) (by kernel_rfl) (by kernel_rfl) (fun _ _ _ h => h) (by kernel_rfl) (fun wx h => ex_load_tn rfl wx g n o rfl h.1 HK.out.len) HS ?_
        simp only [pt_lit, List.set_cons_succ, List.set_cons_zero]
        refine tk (i := 8) 29 (v := .int .i64 (s : Nat)) rfl rfl (by kernel_rfl) (by kernel_rfl) (by kernel_rfl) (fun _ _ _ h => h) (by kernel_rfl) (fun wx _ => by kernel_rfl) HS ?_
        simp only [pt_lit, List.set_cons_succ, List.set_cons_zero]
        refine tk (i := 9) 30 (v := .int .i64 (r : Nat)) rfl rfl (by kernel_rfl) (by kernel_rfl) (by kernel_rfl) (fun _ _ _ h => h) (by kernel_rfl) (fun wx _ => by kernel_rfl) HS ?_
        simp only [pt_lit, List.set_cons_succ, List.set_cons_zero]
        refine rc 27 (i := 6) (f := 61) (args := #[.agg (tnN n o), .int .i64 (s : Nat)]) (by kernel_rfl) rfl rfl (by kernel_rfl) (by kernel_rfl) ?_
        refine (indep_any n o s _ HK.out (by omega)).mono ?_
        rintro e w2 ⟨cap1, rfl, T1, hb1⟩
        have HS1 : TnN w2 g n o ∧ Below w.heap.size w w2 := ⟨Blk.later HS.1 hb1, below_then HS.2 HS.2.size hb1⟩
        refine ⟨_, rfl, HS1, ?_⟩
        simp only [pt_lit, List.set_cons_succ, List.set_cons_zero]
        refine rc 31 (i := 10) (f := 62) (args := #[.agg (tnN n o), .int .i64 (s : Nat), .int .i64 (r : Nat)]) (by kernel_rfl) rfl rfl (by kernel_rfl) (by kernel_rfl) ?_
        refine (absb_any n o s r _ HK.out (by omega) (by omega)).mono ?_
        rintro e w3 ⟨cap2, rfl, T2, hb2⟩
        have HS2 : TnN w3 g n o ∧ Below w.heap.size w w3 := ⟨Blk.later HS1.1 hb2, below_then HS1.2 HS1.2.size hb2⟩
        refine ⟨_, rfl, HS2, ?_⟩
        simp only [pt_lit, List.set_cons_succ, List.set_cons_zero]
        have hb3 : Below w3.heap.size w3 (w3.alloc (.cells #[.func (.func 86) #[] cap1, .func (.func 87) #[] cap2] 62)) := below_alloc (Below.refl _ _) _
        have hB := Blk.new w3 62 #[.func (.func 86) #[] cap1, .func (.func 87) #[] cap2]
        have HS3 : TnN (w3.alloc (.cells #[.func (.func 86) #[] cap1, .func (.func 87) #[] cap2] 62)) g n o ∧ Below w.heap.size w (w3.alloc (.cells #[.func (.func 86) #[] cap1, .func (.func 87) #[] cap2] 62)) := ⟨Blk.later HS2.1 hb3, below_then HS2.2 HS2.2.size hb3⟩
        refine rv 32 (i := 11) (v := .slice (some ⟨w3.heap.size, 0, none⟩) 2 2) (w' := w3.alloc (.cells #[.func (.func 86) #[] cap1, .func (.func 87) #[] cap2] 62)) (by kernel_rfl) rfl rfl (by kernel_rfl) (by kernel_rfl) HS3 ?_
        simp only [pt_lit, List.set_cons_succ, List.set_cons_zero]
        refine rc 33 (i := 12) (f := 60) (args := #[.agg (tnN n o), .slice (some ⟨w3.heap.size, 0, none⟩) 2 2]) (by kernel_rfl) rfl rfl (by kernel_rfl) (by kernel_rfl) ?_
        refine (all_any n o 86 87 cap1 cap2 _ _ _ _ HK.out (by rw [hB.cell]; rfl) (by rw [hB.cell]; rfl) ((T1.later hb2).later hb3) (T2.later hb3)).mono ?_
        rintro e w4 ⟨rfl, hb4⟩
        have HS4 : TnN w4 g n o ∧ Below w.heap.size w w4 := ⟨Blk.later HS3.1 hb4, below_then HS3.2 HS3.2.size hb4⟩
        refine ⟨_, rfl, HS4, ?_⟩
        simp only [pt_lit, List.set_cons_succ, List.set_cons_zero]
        refine tk (i := 13) 34 (v := .bool (AllB n (indB o s) (absB o s r))) rfl rfl (by kernel_rfl) (by kernel_rfl) (by kernel_rfl) (fun _ _ _ h => h) (by kernel_rfl) (fun wx _ => by kernel_rfl) HS4 ?_
        simp only [pt_lit, List.set_cons_succ, List.set_cons_zero]
        refine tk (i := 14) 3 (v := .bool (AllB n (indB o s) (absB o s r))) rfl rfl (by kernel_rfl) (by kernel_rfl) (by kernel_rfl) (fun _ _ _ h => h) (by kernel_rfl) (fun wx _ => by kernel_rfl) HS4 ?_
        simp only [pt_lit, List.set_cons_succ, List.set_cons_zero]
        refine wpAnyH_done (by kernel_rfl) ?_ _
        go_wp2_with fail
        go_ret
        have hs' : (s != 0) = true := by simpa using h0
        exact ⟨by rw [hs', Bool.true_and, HRr.out]; rfl, HS4.2⟩
def SemiPost (n : Int) (l : List S43) (w : World) (e : Ending) (w' : World) : Prop :=
  if ofE n l = 0 then FirstR w (firstS (fun s => semB n.toNat (townO l) s) n.toNat) e w'
  else e = .returned (.tuple #[.slice none 0 0, .int .i64 (ofE n l)]) ∧ Below w.heap.size w w'
theorem cf59 (args : Array Value) (w : World) : (callFunc 59 args).run Try.prog w = .ok (.enter 59 args) w := by kernel_rfl
set_option maxHeartbeats 1600000 in
set_option maxRecDepth 100000 in
theorem SemiP_any (n : Int) (A : Option Addr) (c : Nat) (l : List S43) (w : World) (hr : Kd.C k43 w A l.length l) (hc : l.length ≤ c) :
    Calls Try.prog 26 #[.int .i64 n, .slice A l.length c] w (SemiPost n l w) := by
  have hmf : ∀ (fn : Fn) (first cap : Array Value) (w : World), (Instr.makeFunc fn first cap).run Try.prog w = .ok (.func fn first cap) w := fun _ _ _ _ => rfl
  have HO := Aside0.mk (of_A n A c l w hr hc)
  have HZ := Aside0.mk (ofA_size n l)
  have H1 := Aside0.mk (ofA_one n l)
  clear hr hc
  by_cases he : ofE n l = 0
  · have ok := okt_of he
    have hA : ofA n l = tnN n.toNat (townO l) := by rw [ofA, if_pos he]
    have hK : SemiPost n l w = FirstR w (firstS (fun s => semB n.toNat (townO l) s) n.toNat) := by funext e w'; simp [SemiPost, he]
    obtain ⟨r, hr0⟩ : ∃ r, firstS (fun s => semB n.toNat (townO l) s) n.toNat = r := ⟨_, rfl⟩
    rw [hK, hr0]
    have HR0 := Aside0.mk hr0
    clear hr0
    rw [hA] at HO HZ H1
    rw [he] at HO
    have HK := Aside0.mk ok
    clear he hA ok hK
    go_enter Try.func26, Try.ntmps26
    go_wp2_with fail
    refine HO.out.mono ?_
    rintro e w1 ⟨rfl, hb⟩
    have HB := Aside0.mk hb
    clear hb HO
    have HT : Aside0 (TnN (w1.alloc (.cells (tnN n.toNat (townO l)) 50)) w1.heap.size n.toNat (townO l)) := ⟨Blk.new _ _ _⟩
    go_wp2_with (first | (refine wpList_store_row rfl 50 _ _ rfl w1.heap.size (tnN n.toNat (townO l)) rfl rfl 50 (tnN 0 zero12) (heap_alloc_new w1 _) (by rw [info50, HZ.out]) (by rw [HZ.out]; rfl) H1.out ?_; rw [World.setRow_alloc_new]) | (refine wpList_load_row rfl 50 _ rfl w1.heap.size rfl 50 (tnN n.toNat (townO l)) (0, 0) _ HT.out Try.underlying50 rfl (by rw [info50, HZ.out]) ?_))
    have HB2 := Aside0.mk (below_alloc HB.out (.cells (tnN n.toNat (townO l)) 50))
    have HH : HasC (w1.alloc (.cells (tnN n.toNat (townO l)) 50)) 59 #[.pointer (some ⟨w1.heap.size, 0, none⟩)] (fun s => semB n.toNat (townO l) s) := ⟨cf59, fun s hs w2 hw2 => semi1_any n.toNat (townO l) s w1.heap.size w2 HK.out hs (Blk.later HT.out hw2)⟩
    refine (first_any n.toNat (townO l) 59 #[.pointer (some ⟨w1.heap.size, 0, none⟩)] (fun s => semB n.toNat (townO l) s) _ HK.out HH).mono ?_
    intro e w2 h2
    rw [HR0.out] at h2
    clear HR0 HH
    cases r with
    | none =>
      obtain ⟨rfl, hb2⟩ := h2
      have HB3 := Aside0.mk (below_then HB2.out HB2.out.size hb2)
      clear hb2
      go_wp2_with fail
      go_ret2
      exact ⟨rfl, HB3.out⟩
    | some x =>
      obtain ⟨v, rfl, hr2, hb2⟩ := h2
      have HB3 := Aside0.mk (below_then HB2.out HB2.out.size hb2)
      have HR := Aside0.mk (Kd.R_lower hr2 HB2.out.size)
      clear hb2 hr2
      go_wp2_with fail
      go_ret2
      exact ⟨v, rfl, HR.out, HB3.out⟩
  · have hK : SemiPost n l w = fun e w' => e = .returned (.tuple #[.slice none 0 0, .int .i64 (ofE n l)]) ∧ Below w.heap.size w w' := by funext e w'; simp [SemiPost, he]
    rw [hK]
    have hb : (ofE n l != 0) = true := bne_iff_ne.2 he
    have hb' : (ofE n l == 0) = false := beq_eq_false_iff_ne.2 he
    clear hK he
    generalize ofE n l = er at *
    go_enter Try.func26, Try.ntmps26
    go_wp2_with fail
    refine HO.out.mono ?_
    rintro e w1 ⟨rfl, hb⟩
    have HB := Aside0.mk hb
    clear hb HO
    go_wp2_with (refine wpList_store_row rfl 50 _ _ rfl w1.heap.size (ofA n l) rfl rfl 50 (tnN 0 zero12) (heap_alloc_new w1 _) (by rw [info50, HZ.out]) (by rw [HZ.out]; rfl) H1.out ?_)
    go_ret2
    exact ⟨rfl, by rw [World.setRow_alloc_new]; exact below_alloc HB.out _⟩
theorem progSemi_any (n : Int) (A : Option Addr) (c : Nat) (l : List S43) (w : World) (hr : Kd.C k43 w A l.length l) (hc : l.length ≤ c) :
    Calls Try.prog 26 #[.int .i64 n, .slice A l.length c] w (OutO (listF n l (semO n l)) (errF n l (semO n l)) w) :=
  (SemiP_any n A c l w hr hc).mono fun e w' h => outO_first h
end Go.Proofs.Ytmobefgnkiboaaa.Im

namespace Go.Proofs.Ytmobefgnkiboaaa.Im
open Go.RowKit Go.Proofs.YtmobefgnkiboaaaW.PrintWords Go.Proofs.YtmobefgnkiboaaaW.PrintLast Go.Proofs.YtmobefgnkiboaaaW.PrintMore
set_option linter.unusedVariables false
/-- Is there a walk with so many arcs? -/
def wkB (o : List Nat) : Nat → Nat → Nat → Bool
  | 0, a, b => a == b
  | L + 1, a, b => (memL (o.getD a 0)).any fun c => wkB o L c b
theorem wk_succ (o : List Nat) (L a b : Nat) : wkB o (L + 1) a b = true ↔ ∃ c, c ∈ memL (o.getD a 0) ∧ wkB o L c b = true := by
  show ((memL (o.getD a 0)).any fun c => wkB o L c b) = true ↔ _
  rw [List.any_eq_true]
theorem wk_append (o : List Nat) : ∀ (L M a b c : Nat), wkB o L a b = true → wkB o M b c = true → wkB o (L + M) a c = true
  | 0, M, a, b, c, h1, h2 => by
    have e : a = b := by simpa [wkB] using h1
    rw [Nat.zero_add, e]; exact h2
  | L + 1, M, a, b, c, h1, h2 => by
    obtain ⟨x, hx, h⟩ := (wk_succ _ _ _ _).1 h1
    rw [show L + 1 + M = (L + M) + 1 by omega]
    exact (wk_succ _ _ _ _).2 ⟨x, hx, wk_append o L M x b c h h2⟩
theorem wk_one (o : List Nat) {a c : Nat} (h : c ∈ memL (o.getD a 0)) : wkB o 1 a c = true := (wk_succ _ _ _ _).2 ⟨c, h, by simp [wkB]⟩
/-- The number of arcs of a shortest walk, odd (1) or even (0); 99: none. -/
def dF (o : List Nat) (a b p : Nat) : Nat := ((List.range 99).find? fun L => L % 2 == p && wkB o L a b).getD 99
theorem dF_spec (o : List Nat) (a b p : Nat) : dF o a b p ≤ 99 ∧ (dF o a b p < 99 → dF o a b p % 2 = p ∧ wkB o (dF o a b p) a b = true) ∧ ∀ m, m % 2 = p → wkB o m a b = true → dF o a b p ≤ m := by
  unfold dF
  cases h : (List.range 99).find? fun L => L % 2 == p && wkB o L a b with
  | none =>
    refine ⟨Nat.le_refl _, fun h => absurd h (Nat.lt_irrefl _), fun m h1 h2 => ?_⟩
    show 99 ≤ m
    rcases Nat.lt_or_ge m 99 with h3 | h3
    · rw [List.find?_eq_none] at h
      exact absurd (by simp [h1, h2]) (h m (List.mem_range.2 h3))
    · exact h3
  | some x =>
    have hx := List.mem_range.1 (List.mem_of_find?_eq_some h)
    have hp := List.find?_some h
    simp only [Bool.and_eq_true, beq_iff_eq] at hp
    refine ⟨Nat.le_of_lt hx, fun _ => hp, fun m h1 h2 => ?_⟩
    show x ≤ m
    rcases Nat.lt_or_ge m x with h3 | h3
    · obtain ⟨_, l1, l2, e, hq⟩ := List.find?_eq_some_iff_append.1 h
      have hs : (l1 ++ x :: l2).Pairwise (· < ·) := by rw [← e]; exact List.pairwise_lt_range
      rw [List.pairwise_append] at hs
      have hm : m ∈ l1 ++ x :: l2 := by rw [← e]; exact List.mem_range.2 (by omega)
      rw [List.mem_append] at hm
      rcases hm with hm | hm
      · have := hq m hm
        simp [h1, h2] at this
      · rw [List.mem_cons] at hm
        rcases hm with hm | hm
        · omega
        · have := (List.pairwise_cons.1 hs.2.1).1 m hm
          omega
    · exact h3
theorem dF_unique {o : List Nat} {a b p x : Nat} (h99 : x ≤ 99) (h1 : x < 99 → x % 2 = p ∧ wkB o x a b = true) (h2 : ∀ m, m % 2 = p → wkB o m a b = true → x ≤ m) : x = dF o a b p := by
  obtain ⟨k99, k1, k2⟩ := dF_spec o a b p
  rcases Nat.lt_trichotomy x (dF o a b p) with h | h | h
  · obtain ⟨h3, h4⟩ := h1 (by omega)
    have := k2 x h3 h4; omega
  · exact h
  · obtain ⟨h3, h4⟩ := k1 (by omega)
    have := h2 _ h3 h4; omega
theorem dF_wk {o : List Nat} {a b p m : Nat} (hm : m < 99) (h : dF o a b p = m) : m % 2 = p ∧ wkB o m a b = true := by
  have := (dF_spec o a b p).2.1 (by omega)
  rwa [h] at this
theorem dF_no {o : List Nat} {a b p m : Nat} (hm : m % 2 = p) (h : m < dF o a b p) : wkB o m a b = false := by
  cases hb : wkB o m a b with
  | false => rfl
  | true => have := (dF_spec o a b p).2.2 m hm hb; omega
/-- The rest of the first closed walk. -/
def grF (o : List Nat) (z : Nat) : Nat → Nat → List Nat
  | 0, _ => []
  | d + 1, last => match (memL (o.getD last 0)).find? fun c => wkB o (d + 1) c z with
    | some c => c :: grF o z d c
    | none => []
theorem findSome_if {α : Type} (P : Nat → Bool) (g : Nat → α) : ∀ (l : List Nat), (l.findSome? fun j => if P j then some (g j) else none) = (l.find? P).map g
  | [] => rfl
  | a :: l => by
    rw [List.findSome?_cons, List.find?_cons]
    cases h : P a
    · simp [findSome_if P g l]
    · simp
theorem findSome_congr {α : Type} {f g : Nat → Option α} : ∀ {l : List Nat}, (∀ x ∈ l, f x = g x) → l.findSome? f = l.findSome? g
  | [], _ => rfl
  | a :: l, h => by
    rw [List.findSome?_cons, List.findSome?_cons, h a List.mem_cons_self, findSome_congr fun x hx => h x (List.mem_cons_of_mem _ hx)]
theorem any_find (P : Nat → Bool) (l : List Nat) : l.any P = (l.find? P).isSome := by
  induction l with
  | nil => rfl
  | cons a l ih => rw [List.any_cons, List.find?_cons, ih]; cases P a <;> simp
/-- A way from a person to a last one. -/
structure Wy (o : List Nat) (n z : Nat) (way : List Nat) (last : Nat) : Prop where
  ne : way ≠ []
  hd : way.headD 0 = z
  la : way.getLastD 0 = last
  lt : ∀ x ∈ way, x < n
  nd : way.Nodup
  wk : ∀ x ∈ way, ∃ p q, p + q + 1 = way.length ∧ wkB o p z x = true ∧ wkB o q x last = true
theorem Wy.one (o : List Nat) {n z : Nat} (h : z < n) : Wy o n z [z] z :=
  ⟨by simp, rfl, rfl, fun x hx => by rw [List.mem_singleton.1 hx]; exact h, by simp, fun x hx => by rw [List.mem_singleton.1 hx]; exact ⟨0, 0, rfl, by simp [wkB], by simp [wkB]⟩⟩
theorem Wy.snoc {o : List Nat} {n z last j : Nat} {way : List Nat} (h : Wy o n z way last) (hj : j ∈ memL (o.getD last 0)) (hn : j < n) (hni : j ∉ way) : Wy o n z (way ++ [j]) j := by
  refine ⟨by simp, ?_, by simp, fun x hx => ?_, ?_, fun x hx => ?_⟩
  · have := h.hd
    cases way with
    | nil => exact absurd rfl h.ne
    | cons a l => exact this
  · rw [List.mem_append, List.mem_singleton] at hx
    rcases hx with hx | rfl
    · exact h.lt x hx
    · exact hn
  · rw [List.nodup_append]
    exact ⟨h.nd, by simp, fun a ha b hb => by rw [List.mem_singleton.1 hb]; exact fun e => hni (e ▸ ha)⟩
  · rw [List.mem_append, List.mem_singleton] at hx
    rw [List.length_append]
    have hl : last ∈ way := by
      have hla := h.la
      rw [List.getLastD_eq_getLast?] at hla
      cases hg : way.getLast? with
      | none => rw [List.getLast?_eq_none_iff] at hg; exact absurd hg h.ne
      | some y => rw [hg] at hla; have : y = last := hla; rw [← this]; exact List.mem_of_getLast? hg
    rcases hx with hx | rfl
    · obtain ⟨p, q, h1, h2, h3⟩ := h.wk x hx
      exact ⟨p, q + 1, by simp; omega, h2, wk_append o q 1 x last j h3 (wk_one o hj)⟩
    · obtain ⟨p, q, h1, h2, h3⟩ := h.wk last hl
      refine ⟨p + q + 1, 0, by simp; omega, ?_, by simp [wkB]⟩
      exact wk_append o (p + q) 1 z last x (wk_append o p q z last last h2 h3) (wk_one o hj)
section
variable {o : List Nat} {n : Nat} (ok : Okt n o)
include ok
theorem arc_lt {a c : Nat} (h : c ∈ memL (o.getD a 0)) : c < n := by
  have hb := ((memL_mem _ _).1 h).2
  rcases Nat.lt_or_ge c n with h1 | h1
  · exact h1
  · rw [Nat.testBit_lt_two_pow (Nat.lt_of_lt_of_le (ok.lt a) (Nat.pow_le_pow_right (by decide) h1))] at hb; cases hb
/-- With a closed walk that is too short for two odd ones nobody is met twice. -/
theorem wy_new {z long d last j : Nat} {way : List Nat} (hodd : long % 2 = 1) (hmin : ∀ m v, v < n → m % 2 = 1 → m < long → wkB o m v v = false) (h : Wy o n z way last) (hl : way.length + (d + 1) = long)
    (hj : j ∈ memL (o.getD last 0)) (hw : wkB o (d + 1) j z = true) : j ∉ way := by
  intro hin
  obtain ⟨p, q, h1, h2, h3⟩ := h.wk j hin
  have hjn := arc_lt ok hj
  have hz : z < n := by
    have := h.lt
    have hd := h.hd
    cases way with
    | nil => exact absurd rfl h.ne
    | cons a l => rw [← hd]; exact this a List.mem_cons_self
  have c1 : wkB o (q + 1) j j = true := wk_append o q 1 j last j h3 (wk_one o hj)
  have c2 : wkB o (p + (d + 1)) z z = true := wk_append o p (d + 1) z j z h2 hw
  rcases Nat.mod_two_eq_zero_or_one (q + 1) with h4 | h4
  · rw [hmin (p + (d + 1)) z hz (by omega) (by omega)] at c2; cases c2
  · rw [hmin (q + 1) j hjn h4 (by omega)] at c1; cases c1
theorem oddF_gr {z long : Nat} (hodd : long % 2 = 1) (hmin : ∀ m v, v < n → m % 2 = 1 → m < long → wkB o m v v = false) (hz : z < 12) : ∀ (d : Nat) (way : List Nat) (last : Nat), way.length + d = long → Wy o n z way last →
    oddF o d way = if wkB o (d + 1) last z then some (way ++ grF o z d last) else none
  | 0, way, last, hl, h => by
    have e : wkB o 1 last z = (o.getD last 0).testBit z := by
      rw [Bool.eq_iff_iff, wk_succ]
      constructor
      · rintro ⟨c, hc, h1⟩
        have e : c = z := by simpa [wkB] using h1
        rw [← e]; exact ((memL_mem _ _).1 hc).2
      · exact fun hb => ⟨z, (memL_mem _ _).2 ⟨hz, hb⟩, by simp [wkB]⟩
    have : oddF o 0 way = if (o.getD (way.getLastD 0) 0).testBit (way.headD 0) then some way else none := rfl
    rw [this, h.la, h.hd, e]
    simp [grF]
  | d + 1, way, last, hl, h => by
    have hF : oddF o (d + 1) way = (memL (o.getD (way.getLastD 0) 0)).findSome? fun j => if way.contains j then none else oddF o d (way ++ [j]) := rfl
    rw [hF, h.la]
    have hc : ∀ j ∈ memL (o.getD last 0), (if way.contains j then none else oddF o d (way ++ [j])) = if wkB o (d + 1) j z then some (way ++ (j :: grF o z d j)) else none := fun j hj => by
      by_cases hin : j ∈ way
      · rw [if_pos (List.contains_iff_mem.2 hin)]
        cases hw : wkB o (d + 1) j z with
        | false => rfl
        | true => exact absurd hin (wy_new ok hodd hmin h hl hj hw)
      · rw [if_neg (by rw [List.contains_iff_mem]; exact hin), oddF_gr hodd hmin hz d (way ++ [j]) j (by simp; omega) (h.snoc hj (arc_lt ok hj) hin), List.append_assoc]
        rfl
    rw [findSome_congr hc, findSome_if (fun j => wkB o (d + 1) j z) (fun j => way ++ (j :: grF o z d j))]
    have e : wkB o (d + 1 + 1) last z = ((memL (o.getD last 0)).find? fun j => wkB o (d + 1) j z).isSome := any_find _ _
    rw [e]
    have eg : grF o z (d + 1) last = match (memL (o.getD last 0)).find? fun c => wkB o (d + 1) c z with
      | some c => c :: grF o z d c
      | none => [] := rfl
    rw [eg]
    cases (memL (o.getD last 0)).find? fun j => wkB o (d + 1) j z with
    | none => rfl
    | some c => rfl
theorem gr_nodup {z long : Nat} (hodd : long % 2 = 1) (hmin : ∀ m v, v < n → m % 2 = 1 → m < long → wkB o m v v = false) : ∀ (d : Nat) (way : List Nat) (last : Nat), way.length + d = long → Wy o n z way last → wkB o (d + 1) last z = true →
    (way ++ grF o z d last).Nodup ∧ (∀ x ∈ way ++ grF o z d last, x < n) ∧ (way ++ grF o z d last).length = long
  | 0, way, last, hl, h, hw => by
    simp only [grF, List.append_nil]
    exact ⟨h.nd, h.lt, by omega⟩
  | d + 1, way, last, hl, h, hw => by
    have e : wkB o (d + 1 + 1) last z = ((memL (o.getD last 0)).find? fun j => wkB o (d + 1) j z).isSome := any_find _ _
    rw [e] at hw
    have eg : grF o z (d + 1) last = match (memL (o.getD last 0)).find? fun c => wkB o (d + 1) c z with
      | some c => c :: grF o z d c
      | none => [] := rfl
    rw [eg]
    cases hf : (memL (o.getD last 0)).find? fun j => wkB o (d + 1) j z with
    | none => rw [hf] at hw; cases hw
    | some c =>
      have hc := List.mem_of_find?_eq_some hf
      have hp : wkB o (d + 1) c z = true := List.find?_some (p := fun j => wkB o (d + 1) j z) hf
      have := gr_nodup hodd hmin d (way ++ [c]) c (by simp; omega) (h.snoc hc (arc_lt ok hc) (wy_new ok hodd hmin h hl hc hp)) hp
      rw [List.append_assoc] at this
      exact this
end
theorem nodup_le : ∀ (n : Nat) (l : List Nat), l.Nodup → (∀ x ∈ l, x < n) → l.length ≤ n
  | 0, l, _, h => by
    cases l with
    | nil => exact Nat.le_refl _
    | cons a l => exact absurd (h a List.mem_cons_self) (Nat.not_lt_zero _)
  | n + 1, l, hd, h => by
    by_cases hn : n ∈ l
    · have := nodup_le n (l.erase n) (hd.erase n) (fun x hx => by
        rw [List.Nodup.mem_erase_iff hd] at hx
        have := h x hx.2; omega)
      rw [List.length_erase_of_mem hn] at this
      omega
    · have := nodup_le n l hd (fun x hx => by
        have := h x hx
        have : x ≠ n := fun e => hn (e ▸ hx)
        omega)
      omega
/-- The best start, of the first people. -/
def bestF (o : List Nat) (k : Nat) : Nat × Nat := (List.range k).foldl (fun s a => if dF o a a 1 < s.1 then (dF o a a 1, a) else s) (99, 0)
theorem bestF_succ (o : List Nat) (k : Nat) : bestF o (k + 1) = if dF o k k 1 < (bestF o k).1 then (dF o k k 1, k) else bestF o k := by
  unfold bestF
  rw [List.range_succ, List.foldl_append]
  rfl
theorem bestF_spec (o : List Nat) : ∀ k, (bestF o k).1 ≤ 99 ∧ (∀ a, a < k → (bestF o k).1 ≤ dF o a a 1) ∧ ((bestF o k).1 = 99 ∧ (bestF o k).2 = 0 ∨ (bestF o k).2 < k ∧ dF o (bestF o k).2 (bestF o k).2 1 = (bestF o k).1 ∧ (bestF o k).1 < 99 ∧ ∀ a, a < (bestF o k).2 → (bestF o k).1 < dF o a a 1)
  | 0 => ⟨Nat.le_refl _, fun a h => absurd h (Nat.not_lt_zero _), .inl ⟨rfl, rfl⟩⟩
  | k + 1 => by
    obtain ⟨h1, h2, h3⟩ := bestF_spec o k
    rw [bestF_succ]
    by_cases h : dF o k k 1 < (bestF o k).1
    · rw [if_pos h]
      refine ⟨by show dF o k k 1 ≤ 99; omega, fun a ha => ?_, .inr ⟨by show k < k + 1; omega, rfl, by show dF o k k 1 < 99; omega, fun a ha => ?_⟩⟩
      · show dF o k k 1 ≤ dF o a a 1
        rcases Nat.lt_or_ge a k with h4 | h4
        · have := h2 a h4; omega
        · obtain rfl : a = k := by omega
          exact Nat.le_refl _
      · show dF o k k 1 < dF o a a 1
        have := h2 a ha; omega
    · rw [if_neg h]
      refine ⟨h1, fun a ha => ?_, ?_⟩
      · rcases Nat.lt_or_ge a k with h4 | h4
        · exact h2 a h4
        · obtain rfl : a = k := by omega
          omega
      · rcases h3 with h3 | ⟨h3, h4⟩
        · exact .inl h3
        · exact .inr ⟨by omega, h4⟩
/-- What the specification returns. -/
def oddR (n : Nat) (o : List Nat) : Option (List Nat) := if (bestF o n).1 = 99 then none else some ((bestF o n).2 :: grF o (bestF o n).2 ((bestF o n).1 - 1) (bestF o n).2)
theorem findSome_none {α : Type} {f : Nat → Option α} {l : List Nat} (h : ∀ x ∈ l, f x = none) : l.findSome? f = none := by
  rw [List.findSome?_eq_none_iff]; exact h
theorem findSome_range {α : Type} {f : Nat → Option α} {n k : Nat} {r : α} (hk : k < n) (h0 : ∀ j, j < k → f j = none) (h1 : f k = some r) : (List.range n).findSome? f = some r := by
  rw [List.findSome?_eq_some_iff]
  refine ⟨List.range k, k, (List.range n).drop (k + 1), ?_, h1, fun x hx => h0 x (List.mem_range.1 hx)⟩
  have e1 : List.range k = (List.range n).take k := by rw [List.take_range, Nat.min_eq_left (Nat.le_of_lt hk)]
  rw [e1]
  have e2 : k :: (List.range n).drop (k + 1) = (List.range n).drop k := by
    have e3 := List.drop_eq_getElem_cons (l := List.range n) (i := k) (by rw [List.length_range]; exact hk)
    rw [List.getElem_range] at e3
    exact e3.symm
  rw [e2, List.take_append_drop]
theorem oddS_eq {n : Nat} {o : List Nat} (ok : Okt n o) : oddS n o = oddR n o := by
  have n12 := ok.n12
  obtain ⟨h1, h2, h3⟩ := bestF_spec o n
  unfold oddR oddS
  have none_at : ∀ q i, 2 * q + 1 < (bestF o n).1 → i < n → oddF o (2 * q) [i] = none := fun q i hq hi => by
    have hmin : ∀ m v, v < n → m % 2 = 1 → m < 2 * q + 1 → wkB o m v v = false := fun m v hv hm hlt => dF_no hm (by have := h2 v hv; omega)
    rw [oddF_gr ok (z := i) (long := 2 * q + 1) (by omega) hmin (by omega) (2 * q) [i] i (by simp; omega) (Wy.one o hi), dF_no (p := 1) (by omega) (by have := h2 i hi; omega)]
    rfl
  rcases h3 with ⟨h3, h4⟩ | ⟨h3, h4, h5, h6⟩
  · rw [if_pos h3]
    refine findSome_none fun q hq => ?_
    have hq' := List.mem_range.1 hq
    exact findSome_none fun i hi => none_at q i (by omega) (List.mem_range.1 hi)
  · rw [if_neg (by omega)]
    generalize (bestF o n).1 = b at *
    generalize (bestF o n).2 = z at *
    obtain ⟨hb1, hw⟩ := dF_wk h5 h4
    have hmin : ∀ m v, v < n → m % 2 = 1 → m < b → wkB o m v v = false := fun m v hv hm hlt => dF_no hm (by have := h2 v hv; omega)
    have e1 : b - 1 + 1 = b := by omega
    obtain ⟨g1, g2, g3⟩ := gr_nodup ok hb1 hmin (b - 1) [z] z (by simp; omega) (Wy.one o h3) (by rw [e1]; exact hw)
    have hbn : b ≤ n := by rw [← g3]; exact nodup_le n _ g1 g2
    refine findSome_range (k := (b - 1) / 2) (by omega) (fun q hq => ?_) ?_
    · exact findSome_none fun i hi => none_at q i (by omega) (List.mem_range.1 hi)
    · have e2 : 2 * ((b - 1) / 2) = b - 1 := by omega
      unfold oddI
      rw [e2]
      refine findSome_range h3 (fun i hi => ?_) ?_
      · rw [oddF_gr ok (z := i) hb1 hmin (by omega) (b - 1) [i] i (by simp; omega) (Wy.one o (by omega)), e1, dF_no hb1 (h6 i hi)]
        rfl
      · rw [oddF_gr ok (z := z) hb1 hmin (by omega) (b - 1) [z] z (by simp; omega) (Wy.one o h3), e1, hw]
        rfl
/-- The next one of the first closed walk: found by its distance. -/
theorem gr_next {n : Nat} {o : List Nat} (ok : Okt n o) {z d last b : Nat} (hd : d + 1 < 99) (hno : ∀ m, m < d + 2 → m % 2 = (d + 2) % 2 → wkB o m last z = false)
    (hb : (o.getD last 0).testBit b = true) (hbd : dF o b z ((d + 1) % 2) = d + 1) (hlt : ∀ j, j < b → ((o.getD last 0).testBit j && dF o j z ((d + 1) % 2) == d + 1) = false) :
    grF o z (d + 1) last = b :: grF o z d b ∧ wkB o (d + 1) b z = true ∧ ∀ m, m < d + 1 → m % 2 = (d + 1) % 2 → wkB o m b z = false := by
  have hbm : b ∈ memL (o.getD last 0) := by
    rw [memL_mem]
    refine ⟨?_, hb⟩
    rcases Nat.lt_or_ge b 12 with h | h
    · exact h
    · rw [Nat.testBit_lt_two_pow (Nat.lt_of_lt_of_le (ok.lt12 last) (Nat.pow_le_pow_right (by decide) h : 2 ^ 12 ≤ 2 ^ b))] at hb; cases hb
  have hw := (dF_wk hd hbd).2
  have hf : ((memL (o.getD last 0)).find? fun c => wkB o (d + 1) c z) = some b := by
    rw [List.find?_eq_some_iff_append]
    obtain ⟨l1, l2, e⟩ := List.append_of_mem hbm
    refine ⟨hw, l1, l2, e, fun a ha => ?_⟩
    have hs := memL_sorted (o.getD last 0)
    rw [e, List.pairwise_append] at hs
    have hab : a < b := hs.2.2 a ha b List.mem_cons_self
    have ham : a ∈ memL (o.getD last 0) := by rw [e]; exact List.mem_append_left _ ha
    have h1 := hlt a hab
    rw [((memL_mem _ _).1 ham).2, Bool.true_and, beq_eq_false_iff_ne] at h1
    cases hq : wkB o (d + 1) a z with
    | false => rfl
    | true =>
      exfalso
      have h2 := (dF_spec o a z ((d + 1) % 2)).2.2 (d + 1) rfl hq
      obtain ⟨h3, h4⟩ := (dF_spec o a z ((d + 1) % 2)).2.1 (by omega)
      have h5 := wk_append o 1 _ last a z (wk_one o ham) h4
      rw [hno (1 + dF o a z ((d + 1) % 2)) (by omega) (by omega)] at h5
      cases h5
  refine ⟨?_, hw, fun m hm hm2 => dF_no hm2 (by omega)⟩
  have eg : grF o z (d + 1) last = match (memL (o.getD last 0)).find? fun c => wkB o (d + 1) c z with
    | some c => c :: grF o z d c
    | none => [] := rfl
  rw [eg, hf]
theorem gr_some {n : Nat} {o : List Nat} (ok : Okt n o) {z d last : Nat} (hd : d + 1 < 99) (hno : ∀ m, m < d + 2 → m % 2 = (d + 2) % 2 → wkB o m last z = false) (hw : wkB o (d + 2) last z = true)
    (hlt : ∀ j, j < n → ((o.getD last 0).testBit j && dF o j z ((d + 1) % 2) == d + 1) = false) : False := by
  obtain ⟨c, hc, hq⟩ := (wk_succ _ _ _ _).1 hw
  have h1 := hlt c (arc_lt ok hc)
  rw [((memL_mem _ _).1 hc).2, Bool.true_and, beq_eq_false_iff_ne] at h1
  have h2 := (dF_spec o c z ((d + 1) % 2)).2.2 (d + 1) rfl hq
  obtain ⟨h3, h4⟩ := (dF_spec o c z ((d + 1) % 2)).2.1 (by omega)
  have h5 := wk_append o 1 _ last c z (wk_one o hc) h4
  rw [hno (1 + dF o c z ((d + 1) % 2)) (by omega) (by omega)] at h5
  cases h5
end Go.Proofs.Ytmobefgnkiboaaa.Im

namespace Go.Proofs.Ytmobefgnkiboaaa.Im
open Go.RowKit Go.Proofs.YtmobefgnkiboaaaW.PrintWords Go.Proofs.YtmobefgnkiboaaaW.PrintLast Go.Proofs.YtmobefgnkiboaaaW.PrintMore
set_option linter.unusedVariables false
/-- What a table of distances from a person holds so far: twice the person, and the parity. -/
structure Tab (o : List Nat) (n z : Nat) (T : List Nat) : Prop where
  len : T.length = 2 * n
  le : ∀ b p, b < n → p < 2 → T.getD (2 * b + p) 0 ≤ 99
  sound : ∀ b p, b < n → p < 2 → T.getD (2 * b + p) 0 < 99 → T.getD (2 * b + p) 0 % 2 = p ∧ wkB o (T.getD (2 * b + p) 0) z b = true
  zero : T.getD (2 * z) 0 = 0
def okT (o T : List Nat) (a b p : Nat) : Prop := (o.getD a 0).testBit b = true → T.getD (2 * b + (1 - p)) 0 ≤ T.getD (2 * a + p) 0 + 1
theorem tab_start {o : List Nat} {n z : Nat} (hz : z < n) : Tab o n z ((List.replicate (2 * n) 99).set (2 * z) 0) := by
  have hg : ∀ i, i < 2 * n → ((List.replicate (2 * n) 99).set (2 * z) 0).getD i 0 = if i = 2 * z then 0 else 99 := fun i hi => by
    rw [List.getD_eq_getElem?_getD, List.getElem?_set]
    by_cases h : i = 2 * z
    · rw [if_pos h.symm, if_pos (by rw [List.length_replicate]; omega), if_pos h]; rfl
    · rw [if_neg (fun e => h e.symm), if_neg h, List.getElem?_replicate, if_pos hi]; rfl
  refine ⟨by simp, fun b p hb hp => ?_, fun b p hb hp h => ?_, ?_⟩
  · rw [hg _ (by omega)]; split <;> omega
  · rw [hg _ (by omega)] at h ⊢
    by_cases e : 2 * b + p = 2 * z
    · rw [if_pos e]
      obtain rfl : b = z := by omega
      exact ⟨by omega, by simp [wkB]⟩
    · rw [if_neg e] at h; omega
  · rw [hg _ (by omega), if_pos rfl]
theorem tab_set {o : List Nat} {n z : Nat} (ok : Okt n o) {T : List Nat} (h : Tab o n z T) {a b p : Nat} (ha : a < n) (hb : b < n) (hp : p < 2) (hz : z < n) (hab : (o.getD a 0).testBit b = true) (hlt : T.getD (2 * a + p) 0 + 1 < T.getD (2 * b + (1 - p)) 0) :
    Tab o n z (T.set (2 * b + (1 - p)) (T.getD (2 * a + p) 0 + 1)) := by
  have n12 := ok.n12
  have hl := h.len
  have hg : ∀ i, (T.set (2 * b + (1 - p)) (T.getD (2 * a + p) 0 + 1)).getD i 0 = if i = 2 * b + (1 - p) then T.getD (2 * a + p) 0 + 1 else T.getD i 0 := fun i => by
    rw [List.getD_eq_getElem?_getD, List.getElem?_set]
    by_cases e : i = 2 * b + (1 - p)
    · rw [if_pos e.symm, if_pos e, if_pos (by omega)]; rfl
    · rw [if_neg (fun e' => e e'.symm), if_neg e, List.getD_eq_getElem?_getD]
  have hle := h.le b (1 - p) hb (by omega)
  refine ⟨by rw [List.length_set]; exact hl, fun b' p' hb' hp' => ?_, fun b' p' hb' hp' h' => ?_, ?_⟩
  · rw [hg]; split
    · omega
    · exact h.le b' p' hb' hp'
  · rw [hg] at h' ⊢
    by_cases e : 2 * b' + p' = 2 * b + (1 - p)
    · rw [if_pos e]
      obtain rfl : b' = b := by omega
      obtain rfl : p' = 1 - p := by omega
      obtain ⟨h1, h2⟩ := h.sound a p ha hp (by omega)
      exact ⟨by omega, wk_append o _ 1 z a b' h2 (wk_one o ((memL_mem _ _).2 ⟨by omega, hab⟩))⟩
    · rw [if_neg e] at h' ⊢
      exact h.sound b' p' hb' hp' h'
  · rw [hg, if_neg (fun e => ?_)]
    · exact h.zero
    · have := h.zero
      rw [e] at this
      omega
theorem tab_sum {T : List Nat} {i v : Nat} (hi : i < T.length) (hv : v < T.getD i 0) : (T.set i v).sum < T.sum := by
  induction T generalizing i with
  | nil => simp at hi
  | cons x T ih =>
    cases i with
    | zero => simp at hv ⊢; exact hv
    | succ i =>
      simp only [List.set_cons_succ, List.sum_cons, List.length_cons] at hi ⊢
      have := ih (i := i) (by omega) (by simpa using hv)
      omega
theorem tab_done {o : List Nat} {n z : Nat} (ok : Okt n o) {T : List Nat} (h : Tab o n z T) (hz : z < n) (hf : ∀ a b p, a < n → b < n → p < 2 → okT o T a b p) :
    ∀ b p, b < n → p < 2 → T.getD (2 * b + p) 0 = dF o z b p := by
  have key : ∀ m a b, a < n → wkB o m a b = true → b < n → ∀ p, p < 2 → T.getD (2 * b + (p + m) % 2) 0 ≤ T.getD (2 * a + p) 0 + m := by
    intro m
    induction m with
    | zero =>
      intro a b ha hw hb p hp
      have e : a = b := by simpa [wkB] using hw
      rw [e, Nat.add_zero, Nat.mod_eq_of_lt hp]
      exact Nat.le_refl _
    | succ m ih =>
      intro a b ha hw hb p hp
      obtain ⟨c, hc, h1⟩ := (wk_succ _ _ _ _).1 hw
      have hcn := arc_lt ok hc
      have h2 := ih c b hcn h1 hb (1 - p) (by omega)
      have h3 := hf a c p ha hcn hp ((memL_mem _ _).1 hc).2
      have e : (1 - p + m) % 2 = (p + (m + 1)) % 2 := by omega
      rw [e] at h2
      omega
  intro b p hb hp
  refine dF_unique (h.le b p hb hp) (h.sound b p hb hp) (fun m hm hw => ?_)
  have h1 := key m z b hz hw hb 0 (by omega)
  have h2 := h.zero
  rw [Nat.add_zero, Nat.zero_add, hm] at h1
  omega
/-- The table in a block: two cells for each person. -/
def Tb (w : World) (g : Nat) (T : List Nat) : Prop := ∃ ex : List Value, Blk w g 69 (nums .i64 (ints T) ++ ex).toArray
theorem Tb.cell {w : World} {g : Nat} {T : List Nat} (h : Tb w g T) (i : Nat) (hi : i < T.length) : w.cell? ⟨g, i, none⟩ = some (.int .i64 (T.getD i 0 : Nat)) := by
  obtain ⟨ex, hb⟩ := h
  rw [hb.cell]
  have hl : (nums .i64 (ints T)).length = T.length := by rw [nums_length, ints_length]
  rw [List.getElem?_toArray, List.getElem?_append_left (by omega)]
  simp [nums, ints, hi]
theorem Tb.frozen {w : World} {g : Nat} {T : List Nat} (h : Tb w g T) (i : Nat) : w.frozen? ⟨g, i, none⟩ = false := by
  obtain ⟨ex, hb⟩ := h
  exact hb.frozen i
theorem Tb.set_ {w : World} {g : Nat} {T : List Nat} (h : Tb w g T) (i v : Nat) (hi : i < T.length) : Tb (w.setCell ⟨g, i, none⟩ (.int .i64 (v : Nat))) g (T.set i v) := by
  obtain ⟨ex, hb⟩ := h
  refine ⟨ex, ?_⟩
  have := Blk.set_ hb i (.int .i64 (v : Nat))
  have hl : (nums .i64 (ints T)).length = T.length := by rw [nums_length, ints_length]
  have e : ((nums .i64 (ints T) ++ ex).toArray).setIfInBounds i (.int .i64 (v : Nat)) = (nums .i64 (ints (T.set i v)) ++ ex).toArray := by
    rw [List.setIfInBounds_toArray, List.set_append_left _ _ (by omega)]
    simp [nums, ints, List.map_set]
  rw [e] at this
  exact this
theorem Tb.later {w w' : World} {g : Nat} {T : List Nat} (h : Tb w g T) (hb : Below w.heap.size w w') : Tb w' g T := by
  obtain ⟨ex, h⟩ := h
  exact ⟨ex, h.later hb⟩
theorem Tb.lt {w : World} {g : Nat} {T : List Nat} (h : Tb w g T) : g < w.heap.size := by
  obtain ⟨ex, h⟩ := h
  exact h.lt
def k69 : Kd (Int × Int) := Kd.pair (Kd.int .i64) (Kd.int .i64)
theorem k69_mk (w : World) (base : Nat) (okp : Nat → Prop) (a b : Int) : k69.M w base okp (a, b) [.int .i64 a, .int .i64 b] := ⟨[.int .i64 a], [.int .i64 b], rfl, rfl, rfl⟩
theorem k69_open {w : World} {base : Nat} {okp : Nat → Prop} {x : Int × Int} {cs : List Value} (h : k69.M w base okp x cs) : cs = [.int .i64 x.1, .int .i64 x.2] := by
  obtain ⟨c0, c1, rfl, h0, h1⟩ := h
  have h0' : c0 = [.int .i64 x.1] := h0
  have h1' : c1 = [.int .i64 x.2] := h1
  rw [h0', h1']; rfl
theorem reps69 {w : World} {base : Nat} {okp : Nat → Prop} : ∀ (k : Nat) (cs : List Value), Reps (k69.M w base okp) 2 (List.replicate k ((99 : Int), (99 : Int))) cs → cs = nums .i64 (ints (List.replicate (2 * k) 99))
  | 0, cs, h => by
    have := h.1
    have : cs = [] := List.eq_nil_of_length_eq_zero (by simpa using this)
    rw [this]; rfl
  | k + 1, cs, h => by
    have hl : cs.length = (k + 1) * 2 := by have := h.1; rwa [List.length_replicate] at this
    have h0 := k69_open (h.2 0 (99, 99) (by simp [List.replicate_succ]))
    have hr : Reps (k69.M w base okp) 2 (List.replicate k ((99 : Int), (99 : Int))) (cs.drop 2) := by
      refine ⟨by rw [List.length_drop, hl, List.length_replicate]; omega, fun j p hp => ?_⟩
      have := h.2 (j + 1) p (by rw [List.replicate_succ]; exact hp)
      rw [List.drop_drop]
      rwa [show (j + 1) * 2 = 2 + j * 2 by omega] at this
    have ih := reps69 k (cs.drop 2) hr
    have e : cs = cs.take 2 ++ cs.drop 2 := (List.take_append_drop 2 cs).symm
    rw [e, ih]
    have h0' : cs.take 2 = [.int .i64 99, .int .i64 99] := by simpa using h0
    rw [h0', show 2 * (k + 1) = 2 * k + 1 + 1 by omega, List.replicate_succ, List.replicate_succ]
    rfl
theorem Tb_of_R {w : World} {base k : Nat} {v : Value} (hk : 0 < k) (h : k69.R 69 w base (fun _ => True) v (List.replicate k ((99 : Int), (99 : Int)))) :
    ∃ g c, v = .slice (some ⟨g, 0, none⟩) k c ∧ k ≤ c ∧ base ≤ g ∧ Tb w g (List.replicate (2 * k) 99) := by
  obtain ⟨_, inner, ⟨hlen, hown⟩, hreps⟩ := h
  have e := reps69 k inner hreps
  rw [List.length_replicate] at hown
  rcases hown with ⟨_, h0⟩ | ⟨g, cap, cur, rfl, hg, hh, hn, hm, hs, ht⟩
  · omega
  · refine ⟨g, cap, rfl, hn, hg, cur.toList.drop (k * 2), ?_⟩
    have e2 : (nums .i64 (ints (List.replicate (2 * k) 99)) ++ cur.toList.drop (k * 2)).toArray = cur := by
      rw [← e, ← ht]
      show (cur.toList.take (k * 2) ++ cur.toList.drop (k * 2)).toArray = cur
      rw [List.take_append_drop]
    rw [e2]
    exact hh
end Go.Proofs.Ytmobefgnkiboaaa.Im

namespace Go.Proofs.Ytmobefgnkiboaaa.Im
open Go.RowKit Go.Proofs.YtmobefgnkiboaaaW.PrintWords Go.Proofs.YtmobefgnkiboaaaW.PrintLast Go.Proofs.YtmobefgnkiboaaaW.PrintMore
set_option linter.unusedVariables false
theorem info69 : (Try.prog.info? 69).map (fun i => (i.zero, i.size, i.bytes)) = some (some (.agg #[(.int .i64 0), (.int .i64 0)]), 2, 16) := by kernel_rfl
theorem tq (x b : Nat) (h : b ≤ 62) : (Int.tmod ((x : Int) / 2 ^ b) 2 == 1) = x.testBit b := by
  have h1 := tbit1 x b h
  rw [shr_i64 x b h, ← shr_nat] at h1
  rw [Bool.eq_iff_iff, beq_iff_eq]
  exact h1
/-- What a part of a round has done: something got shorter, or nothing can. -/
def Rnd (o : List Nat) (n : Nat) (T T' : List Nat) (ag : Bool) (done : Nat → Nat → Nat → Prop) : Prop :=
  if ag then T'.sum < T.sum else T' = T ∧ ∀ a b p, a < n → b < n → p < 2 → done a b p → okT o T a b p
theorem Rnd.weak {o : List Nat} {n : Nat} {T T' : List Nat} {ag : Bool} {d d' : Nat → Nat → Nat → Prop} (h : Rnd o n T T' ag d) (hd : ∀ a b p, a < n → b < n → p < 2 → d' a b p → d a b p ∨ (ag = false → okT o T' a b p)) : Rnd o n T T' ag d' := by
  unfold Rnd at *
  cases ag with
  | true => exact h
  | false => exact ⟨h.1, fun a b p h1 h2 h3 h4 => (hd a b p h1 h2 h3 h4).elim (h.2 a b p h1 h2 h3) (fun h5 => by have := h5 rfl; rwa [h.1] at this)⟩
theorem Rnd.same {o : List Nat} {n : Nat} {T T' : List Nat} {d : Nat → Nat → Nat → Prop} (h : Rnd o n T T' false d) : T' = T := h.1
theorem Rnd.le {o : List Nat} {n : Nat} {T T' : List Nat} {ag : Bool} {d : Nat → Nat → Nat → Prop} (h : Rnd o n T T' ag d) : T'.sum ≤ T.sum := by
  unfold Rnd at h
  cases ag with
  | true => exact Nat.le_of_lt h
  | false => rw [h.1]; exact Nat.le_refl _
def FinT (o : List Nat) (n : Nat) (T : List Nat) (ag : Bool) : Prop := ag = false → ∀ a b p, a < n → b < n → p < 2 → okT o T a b p
def WalkPost (n : Nat) (o : List Nat) (z : Nat) (w : World) (e : Ending) (w' : World) : Prop :=
  ∃ g c T, e = .returned (.slice (some ⟨g, 0, none⟩) n c) ∧ n ≤ c ∧ Tb w' g T ∧ T.length = 2 * n ∧ (∀ b p, b < n → p < 2 → T.getD (2 * b + p) 0 = dF o z b p) ∧ Below w.heap.size w w'
set_option maxHeartbeats 3200000 in
set_option maxRecDepth 100000 in
theorem walks_any (n : Nat) (o : List Nat) (z : Nat) (A : Option Addr) (c : Nat) (w : World) (ok : Okt n o) (hz : z < n) (hr : Kd.C (Kd.int .i64) w A n (ints (o.take n))) (hc : n ≤ c) :
    Calls Try.prog 67 #[.slice A n c, .int .i64 (z : Nat)] w (WalkPost n o z w) := by
  have n12 := ok.n12
  have n1 := ok.n1
  have hr' : Kd.C (Kd.int .i64) w A (ints (o.take n)).length (ints (o.take n)) := by rw [takes_len ok]; exact hr
  obtain ⟨ad, rfl⟩ := C_some hr' (by rw [takes_len ok]; omega)
  have HR := Aside0.mk hr
  have HK := Aside0.mk ok
  clear hr hr' ok
  go_enter Try.func67, Try.ntmps67
  go_wp2_with fail
  go_loopw [5, 6] (fun v5 v6 wr => ∃ k : Nat, k ≤ n ∧ v6 = .int .i64 (k : Int) ∧ Aside0 (k69.R 69 wr w.heap.size (fun _ => True) v5 (List.replicate k ((99 : Int), (99 : Int)))) ∧ Aside0 (Below w.heap.size w wr)) (fun _ v6 _ => n - (intOf v6).toNat)
  case atStart => exact ⟨0, Nat.zero_le _, rfl, ⟨Kd.R_nil _ _ _ _ _⟩, ⟨Below.refl _ _⟩⟩
  case round =>
    obtain ⟨k, hk, rfl, HRz, HBz⟩ := hrel
    by_cases hkn : k < n
    · go_wp2_with (first | ((with_reducible refine gate_builtin (b := .append) (xs := #[.tmp 17, .tmp 19]) rfl ?_); at_builtin; refine Kd.R_append k69 (w0 := w) w.heap.size rfl (.tmp 17) (.tmp 19) 70 69 (.agg #[.int .i64 0, .int .i64 0]) 16 rfl Try.underlying70 info69 rfl (by decide) (by decide) u5 (List.replicate k ((99 : Int), (99 : Int))) ((99 : Int), (99 : Int)) [.int .i64 99, .int .i64 99] (fun _ => True) (fun _ => False) rfl rfl (k69_mk _ _ _ _ _) (fun _ hk => hk.elim) (fun _ _ => trivial) HRz.out HBz.out HBz.out.size (by rw [List.length_replicate]; omega) ?_; intro v9 w9 ho hb hg hat; have HO9 := Aside0.mk ho; have HB9 := Aside0.mk hb; clear ho hb hg hat))
      go_roundw
      case rel => exact ⟨k + 1, by omega, by go_num, ⟨by rw [List.replicate_succ']; exact HO9.out⟩, HB9⟩
      case measure => simp [intOf]; try omega
    · obtain rfl : n = k := by omega
      obtain ⟨g, c2, rfl, hc2, hg, hT⟩ := Tb_of_R (by omega) HRz.out
      have c0 := hT.cell (2 * z) (by rw [List.length_replicate]; omega)
      have f0 := hT.frozen (2 * z)
      rw [Nat.mul_comm 2 z] at c0 f0
      have HT := Aside0.mk hT
      have HG := Aside0.mk hg
      clear hT hg
      have hT0 := HT.out.set_ (z * 2) 0 (by rw [List.length_replicate]; omega)
      have hB0 : Below w.heap.size w (wr.setCell ⟨g, z * 2, none⟩ (.int .i64 ((0 : Nat) : Int))) := gb_below_new HBz.out (gb_set _ _ _) (fun k hk => by cases hk; exact HG.out)
      have hs : Tab o n z ((List.replicate (2 * n) 99).set (z * 2) 0) := by rw [Nat.mul_comm z 2]; exact tab_start hz
      have HS := Aside0.mk hs
      have HT0 := Aside0.mk hT0
      have HB0 := Aside0.mk hB0
      clear hT0 hB0 hs HT HRz HBz
      go_wp2_with fail
      clear c0 f0
      obtain ⟨W, hW⟩ : ∃ W, W = wr.setCell ⟨g, z * 2, none⟩ (.int .i64 0) := ⟨_, rfl⟩
      have e0 : wr.setCell ⟨g, z * 2, none⟩ (.int .i64 ((0 : Nat) : Int)) = W := hW.symm
      rw [e0] at HT0 HB0
      rw [← hW]
      clear e0 hW
      generalize (List.replicate (2 * n) 99).set (z * 2) 0 = T0 at *
      go_loopg [7] (T0.sum + 1) (fun gk v7 wx => ∃ (ag : Bool) (T : List Nat), T.sum + ag.toNat ≤ gk ∧ v7 = .bool ag ∧ Aside0 (Tb wx g T) ∧ Aside0 (Tab o n z T) ∧ Aside0 (FinT o n T ag) ∧ Aside0 (Below w.heap.size w wx))
      case atStart => exact ⟨true, T0, Nat.le_refl _, rfl, HT0, HS, ⟨fun h => Bool.noConfusion h⟩, HB0⟩
      case round =>
        clear HT0 HS HB0
        obtain ⟨ag, T, hgk, rfl, HT, HTab, HF, HB⟩ := hrel
        cases ag with
        | false =>
          go_wp2_with fail
          go_ret
          exact ⟨g, c2, T, rfl, hc2, HT.out, HTab.out.len, tab_done HK.out HTab.out hz (HF.out rfl), HB.out⟩
        | true =>
          obtain ⟨k1, rfl⟩ : ∃ k1, gk = k1 + 1 := ⟨gk - 1, by simp at hgk; omega⟩
          have hk1 : T.sum ≤ k1 := by simp at hgk; omega
          clear hgk HF
          go_wp2_with fail
          obtain ⟨Wo, rfl⟩ : ∃ Wo : World, Wo = wr := ⟨_, rfl⟩
          go_loopw [7, 8] (fun v7 v8 wx => ∃ (a : Nat) (ag : Bool) (T' : List Nat), a ≤ n ∧ v8 = .int .i64 (a : Int) ∧ v7 = .bool ag ∧ Aside0 (Tb wx g T') ∧ Aside0 (Tab o n z T') ∧ Aside0 (Rnd o n T T' ag (fun a' _ _ => a' < a)) ∧ Aside0 (Below w.heap.size w wx)) (fun _ v8 _ => n - (intOf v8).toNat)
          case atStart => exact ⟨0, false, T, Nat.zero_le _, rfl, rfl, HT, HTab, ⟨rfl, fun a b p _ _ _ h => absurd h (Nat.not_lt_zero _)⟩, HB⟩
          case round =>
            clear HT HTab HB
            obtain ⟨a, ag, T1, ha, rfl, rfl, HT, HTab, HRn, HB⟩ := hrel
            by_cases han : a < n
            · go_wp2_with fail
              obtain ⟨Wa, rfl⟩ : ∃ Wa : World, Wa = wr := ⟨_, rfl⟩
              go_loopw [7, 9] (fun v7 v9 wx => ∃ (b : Nat) (ag : Bool) (T' : List Nat), b ≤ n ∧ v9 = .int .i64 (b : Int) ∧ v7 = .bool ag ∧ Aside0 (Tb wx g T') ∧ Aside0 (Tab o n z T') ∧ Aside0 (Rnd o n T T' ag (fun a' b' _ => a' < a ∨ a' = a ∧ b' < b)) ∧ Aside0 (Below w.heap.size w wx)) (fun _ v9 _ => n - (intOf v9).toNat)
              case atStart => exact ⟨0, ag, T1, Nat.zero_le _, rfl, rfl, HT, HTab, ⟨HRn.out.weak fun a' b' p' _ _ _ h => .inl (by omega)⟩, HB⟩
              case round =>
                clear HT HTab HB HRn
                obtain ⟨b, ag, T1, hb, rfl, rfl, HT, HTab, HRn, HB⟩ := hrel
                by_cases hbn : b < n
                · go_wp2_with fail
                  obtain ⟨Wb, rfl⟩ : ∃ Wb : World, Wb = wr := ⟨_, rfl⟩
                  go_loopw [7, 10] (fun v7 v10 wx => ∃ (p : Nat) (ag : Bool) (T' : List Nat), p ≤ 2 ∧ v10 = .int .i64 (p : Int) ∧ v7 = .bool ag ∧ Aside0 (Tb wx g T') ∧ Aside0 (Tab o n z T') ∧ Aside0 (Rnd o n T T' ag (fun a' b' p' => a' < a ∨ a' = a ∧ (b' < b ∨ b' = b ∧ p' < p))) ∧ Aside0 (Below w.heap.size w wx)) (fun _ v10 _ => 2 - (intOf v10).toNat)
                  case atStart => exact ⟨0, ag, T1, Nat.zero_le _, rfl, rfl, HT, HTab, ⟨HRn.out.weak fun a' b' p' _ _ _ h => .inl (by omega)⟩, HB⟩
                  case round =>
                    clear HT HTab HB HRn
                    obtain ⟨p, ag, T1, hp, rfl, rfl, HT, HTab, HRn, HB⟩ := hrel
                    by_cases hpn : p < 2
                    · obtain ⟨_, e0, co⟩ := Kd.at_int HR.out (a : Int) (by omega) (by omega)
                      cases e0
                      rw [rd_takes o n a han, Int.toNat_natCast] at co
                      replace co := (HB.out.cell (World.block_lt_of_cell? w _ co)).trans co
                      have hTl := HTab.out.len
                      have ca := HT.out.cell (2 * a + p) (by omega)
                      have cb := HT.out.cell (2 * b + (1 - p)) (by omega)
                      have fb := HT.out.frozen (2 * b + (1 - p))
                      have hle1 := HTab.out.le a p han hpn
                      rw [Nat.mul_comm 2 a] at ca
                      rw [Nat.mul_comm 2 b] at cb fb
                      have a0 : (0 : Int) ≤ a := by omega
                      have a1 : (a : Int) < n := by omega
                      have b0 : (0 : Int) ≤ b := by omega
                      have b1 : (b : Int) < n := by omega
                      have p0 : (0 : Int) ≤ p := by omega
                      have p1 : (p : Int) < 2 := by omega
                      have hgt : T1.getD (2 * a + p) 0 = T1.getD (a * 2 + p) 0 := by rw [Nat.mul_comm]
                      have hok : Aside0 (okT o T1 a b p ↔ ((o.getD a 0).testBit b = true → T1.getD (b * 2 + (1 - p)) 0 ≤ T1.getD (a * 2 + p) 0 + 1)) := ⟨by unfold okT; rw [Nat.mul_comm 2 b, Nat.mul_comm 2 a]⟩
                      have hset : Aside0 ((o.getD a 0).testBit b = true → T1.getD (a * 2 + p) 0 + 1 < T1.getD (b * 2 + (1 - p)) 0 → Tab o n z (T1.set (b * 2 + (1 - p)) (T1.getD (a * 2 + p) 0 + 1))) := ⟨fun h1 h2 => by
                        rw [Nat.mul_comm b 2, Nat.mul_comm a 2] at h2 ⊢
                        exact tab_set HK.out HTab.out han hbn hpn hz h1 h2⟩
                      have hsum : Aside0 (T1.getD (a * 2 + p) 0 + 1 < T1.getD (b * 2 + (1 - p)) 0 → (T1.set (b * 2 + (1 - p)) (T1.getD (a * 2 + p) 0 + 1)).sum < T1.sum) := ⟨fun h2 => tab_sum (by omega) h2⟩
                      have hTs : Aside0 (b * 2 + (1 - p) < T1.length) := ⟨by omega⟩
                      rw [hgt] at hle1
                      clear hgt
                      have et := tq (o.getD a 0) b (by omega)
                      generalize o.getD a 0 = oa at *
                      generalize T1.getD (a * 2 + p) 0 = ta at *
                      generalize T1.getD (b * 2 + (1 - p)) 0 = tb at *
                      generalize hq : 1 - p = q at *
                      have eq1 : IntKind.i64.wrap (1 - (p : Int)) = (q : Int) := by rw [show (1 : Int) - p = (q : Int) by omega]; exact wr62 _ (by omega) (by omega)
                      have q0 : (0 : Int) ≤ q := by omega
                      have q1 : (q : Int) < 2 := by omega
                      have ew1 : IntKind.i64.wrap ((ta : Int) + 1) = (ta : Int) + 1 := wr62 _ (by omega) (by omega)
                      clear hq
                      cases hbit : oa.testBit b with
                      | false =>
                        rw [hbit] at et hok
                        have hok2 : Aside0 (okT o T1 a b p) := ⟨hok.out.2 (fun h => Bool.noConfusion h)⟩
                        clear hbit hok hset hsum
                        go_wp2_with fail
                        go_quiet (fail)
                        go_wp2_with fail
                        go_roundw
                        case rel => exact ⟨p + 1, ag, T1, by omega, by go_num, rfl, ⟨HT.out.later (pw_below_drewN (Below.refl _ _) _)⟩, HTab, ⟨HRn.out.weak fun a' b' p' _ _ _ h => by
                          by_cases e : a' = a ∧ b' = b ∧ p' = p
                          · obtain ⟨rfl, rfl, rfl⟩ := e
                            exact .inr (fun _ => hok2.out)
                          · exact .inl (by omega)⟩, ⟨pw_below_drewN HB.out _⟩⟩
                        case measure => simp [intOf]; omega
                      | true =>
                        rw [hbit] at et hok hset
                        by_cases hlt : ta + 1 < tb
                        · have hlt' : decide ((ta : Int) + 1 < tb) = true := by rw [decide_eq_true_iff]; omega
                          have HS2 := Aside0.mk (hset.out rfl hlt)
                          have HS3 := Aside0.mk (hsum.out hlt)
                          clear hbit hok hset hsum hlt
                          go_wp2_with fail
                          go_quiet (fail)
                          go_wp2_with fail
                          refine wp_still_tail 13 (by kernel_rfl) (by kernel_rfl) ?_
                          simp only [List.take_succ_cons, List.take_zero, List.drop_succ_cons, List.drop_zero]
                          iterate 13 (refine wpStill_step (fun K hK => ?_); go_simp; refine hK _ ?_; clear hK K)
                          refine wpStill_nil ?_
                          go_wp2_with fail
                          go_roundw
                          case rel =>
                            refine ⟨p + 1, true, T1.set (b * 2 + q) (ta + 1), by omega, by go_num, rfl, ?_, HS2, ?_, ?_⟩
                            · refine ⟨?_⟩
                              exact Tb.set_ (HT.out.later (pw_below_drewN (Below.refl _ _) _)) (b * 2 + q) (ta + 1) hTs.out
                            · refine ⟨?_⟩
                              have h1 := HRn.out.le
                              have h2 := HS3.out
                              show (T1.set (b * 2 + q) (ta + 1)).sum < T.sum
                              omega
                            · exact ⟨gb_below_new (pw_below_drewN HB.out _) (gb_set _ _ _) (fun k hk => by cases hk; exact HG.out)⟩
                          case measure => simp [intOf]; omega
                        · have hlt' : decide ((ta : Int) + 1 < tb) = false := by rw [decide_eq_false_iff_not]; omega
                          have hok2 : Aside0 (okT o T1 a b p) := ⟨hok.out.2 (fun h => by omega)⟩
                          clear hbit hok hset hsum hlt
                          go_wp2_with fail
                          go_quiet (fail)
                          go_wp2_with fail
                          go_roundw
                          case rel => exact ⟨p + 1, ag, T1, by omega, by go_num, rfl, ⟨HT.out.later (pw_below_drewN (Below.refl _ _) _)⟩, HTab, ⟨HRn.out.weak fun a' b' p' _ _ _ h => by
                            by_cases e : a' = a ∧ b' = b ∧ p' = p
                            · obtain ⟨rfl, rfl, rfl⟩ := e
                              exact .inr (fun _ => hok2.out)
                            · exact .inl (by omega)⟩, ⟨pw_below_drewN HB.out _⟩⟩
                          case measure => simp [intOf]; omega
                    · obtain rfl : p = 2 := by omega
                      go_wp2_with fail
                      go_roundw
                      case rel => exact ⟨b + 1, ag, T1, by omega, by go_num, rfl, HT, HTab, ⟨HRn.out.weak fun a' b' p' _ _ _ h => .inl (by omega)⟩, HB⟩
                      case measure => simp [intOf]; omega
                · obtain rfl : b = n := by omega
                  go_wp2_with fail
                  go_roundw
                  case rel => exact ⟨a + 1, ag, T1, by omega, by go_num, rfl, HT, HTab, ⟨HRn.out.weak fun a' b' p' _ _ _ h => .inl (by omega)⟩, HB⟩
                  case measure => simp [intOf]; omega
            · obtain rfl : a = n := by omega
              have hle := HRn.out.le
              have HFn : Aside0 (FinT o a T1 ag) := ⟨fun e => by
                have h1 := HRn.out
                rw [e] at h1
                have h2 := h1.same
                intro a' b' p' h3 h4 h5
                rw [h2]
                exact h1.2 a' b' p' h3 h4 h5 h3⟩
              have hle2 : T1.sum + ag.toNat ≤ k1 := by
                have h1 := HRn.out
                cases ag with
                | true => have : T1.sum < T.sum := h1; simp; omega
                | false => simp; omega
              clear hle HRn
              go_wp2_with fail
              go_roundg k1
              case measure => omega
              case rel => exact ⟨ag, T1, hle2, rfl, HT, HTab, HFn, HB⟩
end Go.Proofs.Ytmobefgnkiboaaa.Im

namespace Go.Proofs.Ytmobefgnkiboaaa.Im
open Go.RowKit Go.Proofs.YtmobefgnkiboaaaW.PrintWords Go.Proofs.YtmobefgnkiboaaaW.PrintLast Go.Proofs.YtmobefgnkiboaaaW.PrintMore
set_option linter.unusedVariables false
def oddO (n : Int) (l : List S43) : Option (List Nat) := oddS n.toNat (townO l)
theorem progOdd_any (n : Int) (A : Option Addr) (c : Nat) (l : List S43) (w : World) (hr : Kd.C k43 w A l.length l) (hc : l.length ≤ c) :
    Calls Try.prog 28 #[.int .i64 n, .slice A l.length c] w (OutO (listF n l (oddO n l)) (errF n l (oddO n l)) w) :=
  (Odd_any n A c l w hr hc).mono fun e w' h => outO_of h
theorem tq2 (x b : Nat) (h : b ≤ 62) : (((x : Int) / 2 ^ b) % 2 == 1) = x.testBit b := by
  rw [← tq x b h, Int.tmod_eq_emod_of_nonneg (by rw [shr_nat]; exact Int.natCast_nonneg _)]
def NoB (o : List Nat) (z last d b : Nat) : Prop := ∀ j, j < b → ((o.getD last 0).testBit j && dF o j z (d % 2) == d) = false
theorem NoB.succ {o : List Nat} {z last d b : Nat} (h : NoB o z last d b) (h1 : ((o.getD last 0).testBit b && dF o b z (d % 2) == d) = false) : NoB o z last d (b + 1) := fun j hj => by
  rcases Nat.lt_or_ge j b with hlt | hge
  · exact h j hlt
  · obtain rfl : j = b := by omega
    exact h1
def MinW (o : List Nat) (z last d : Nat) : Prop := wkB o d last z = true ∧ ∀ k, k < d → k % 2 = d % 2 → wkB o k last z = false
theorem R_one (w : World) (i : Nat) : Kd.R (Kd.int .i64) 3 (w.alloc (.cells #[.int .i64 (i : Nat)] 3)) w.heap.size (fun _ => True) (.slice (some ⟨w.heap.size, 0, none⟩) 1 1) (ints [i]) := by
  have h1 : (w.alloc (.cells #[.int .i64 (i : Nat)] 3)).ownsRow w.heap.size 3 1 (.slice (some ⟨w.heap.size, 0, none⟩) 1 1) (ints [i]).length (encs (Value.int .i64) (ints [i])) :=
    ⟨rfl, .inr ⟨w.heap.size, 1, #[.int .i64 (i : Nat)], rfl, Nat.le_refl _, Blk.new w 3 _, by simp [ints], by decide, rfl, rfl⟩⟩
  exact Kd.R_of_own h1 (fun _ _ => trivial)
theorem getLast_of {l : List Nat} {last p : Nat} (h : l.getLastD 0 = last) (hp : l.length = p) : rd (ints l) ((p : Int) - 1) = (last : Nat) := by
  subst hp
  cases l with
  | nil => subst h; rfl
  | cons a t =>
    have : (((a :: t).length : Int) - 1) = (((a :: t).length - 1 : Nat) : Int) := by simp
    rw [this, rd_ints, ← h]
    congr 1
    rw [List.getD_eq_getElem?_getD, List.getLastD_eq_getLast?, List.getLast?_eq_getElem?]
set_option maxHeartbeats 6400000 in
set_option maxRecDepth 100000 in
theorem refOdd_any (n : Int) (A : Option Addr) (c : Nat) (l : List S43) (w : World) (hr : Kd.C k43 w A l.length l) (hc : l.length ≤ c) :
    Calls Try.prog 29 #[.int .i64 n, .slice A l.length c] w (OutO (listF n l (oddO n l)) (errF n l (oddO n l)) w) := by
  have HT := Aside0.mk (Town_any n A c l w hr hc)
  unfold TownPost at HT
  unfold listF errF
  by_cases he : ofE n l = 0
  · simp only [if_pos he] at HT ⊢
    have ok := okt_of he
    unfold oddO
    rw [oddS_eq ok]
    have HK := Aside0.mk ok
    have hnn := (ofE_ok he).1
    unfold townL at HT
    generalize townO l = o at *
    clear he hr
    obtain ⟨m, rfl⟩ : ∃ m : Nat, n = m := ⟨n.toNat, by omega⟩
    rw [Int.toNat_natCast] at *
    have n12 := ok.n12
    have HWk := Aside0.mk (fun (z : Nat) (A : Option Addr) (c : Nat) (w : World) (hz : z < m) h1 h2 => walks_any m o z A c w ok hz h1 h2)
    have hbs := bestF_spec o m
    have HBs := Aside0.mk (bestF_succ o)
    have HBl := Aside0.mk (fun k => (bestF_spec o k).1)
    clear ok
    obtain ⟨b1, z, hbz⟩ : ∃ b1 z, bestF o m = (b1, z) := ⟨_, _, rfl⟩
    have hRd : oddR m o = if b1 = 99 then none else some (z :: grF o z (b1 - 1) z) := by unfold oddR; rw [hbz]
    rw [hRd]
    obtain ⟨R, hR⟩ : ∃ R, (if b1 = 99 then none else some (z :: grF o z (b1 - 1) z)) = R := ⟨_, rfl⟩
    rw [hR]
    obtain ⟨rl, hrl⟩ : ∃ rl, R.getD [] = rl := ⟨_, rfl⟩
    obtain ⟨re, hre⟩ : ∃ re : Int, (if R.isSome = true then 0 else 10) = re := ⟨_, rfl⟩
    rw [hrl, hre]
    rw [hbz] at hbs
    simp only at hbs
    have HBz := Aside0.mk hbz
    have HR := Aside0.mk hR
    have Hrl := Aside0.mk hrl
    have Hre := Aside0.mk hre
    have Hbs := Aside0.mk hbs
    clear hbz hRd hR hrl hre hbs
    · --
      go_enter Try.func29, Try.ntmps29
      go_wp2_with fail
      refine HT.out.mono ?_
      rintro e w1 ⟨A1, c1, rfl, hc1, hC1, hb1⟩
      have HB1 := Aside0.mk hb1
      have HC1 := Aside0.mk hC1
      clear hb1 hC1
      go_wp2_with fail
      go_loopw [8, 9, 10] (fun v8 v9 v10 wr => ∃ a : Nat, a ≤ m ∧ v10 = .int .i64 (a : Int) ∧ v8 = .int .i64 ((bestF o a).1 : Nat) ∧ v9 = .int .i64 ((bestF o a).2 : Nat) ∧ Aside0 (Below w1.heap.size w1 wr)) (fun _ _ v _ => m - (intOf v).toNat)
      case atStart => exact ⟨0, Nat.zero_le _, rfl, rfl, rfl, ⟨Below.refl _ _⟩⟩
      case round =>
        obtain ⟨a, ha, rfl, rfl, rfl, HBr⟩ := hrel
        by_cases ham : a < m
        · have hsu := HBs.out a
          have hbl := HBl.out a
          obtain ⟨x1, x2, hx⟩ : ∃ x1 x2, bestF o a = (x1, x2) := ⟨_, _, rfl⟩
          rw [hx] at hsu hbl ⊢
          simp only at hsu hbl ⊢
          have hcall := HWk.out a A1 c1 wr ham (Kd.C_below HC1.out HBr.out) hc1
          have HCall := Aside0.mk hcall
          clear hcall hx
          obtain ⟨dx, hdx⟩ : ∃ dx, dF o a a 1 = dx := ⟨_, rfl⟩
          rw [hdx] at hsu
          have HDX := Aside0.mk hdx
          clear hdx
          by_cases hlt : dx < x1
          · rw [if_pos hlt] at hsu
            have HSU := Aside0.mk hsu
            clear hsu
            go_wp2_with fail
            refine HCall.out.mono ?_
            rintro e w2 ⟨g, c2, T, rfl, hc2, hT, hlT, hd, hb2⟩
            have ct := hT.cell (2 * a + 1) (by omega)
            rw [hd a 1 ham (by omega), HDX.out, Nat.mul_comm 2 a] at ct
            have HB2 := Aside0.mk (below_then HBr.out HBr.out.size hb2)
            clear hd hb2 hlT hT
            go_wp2_with fail
            go_roundw
            case rel => exact ⟨a + 1, by omega, by go_num, by rw [HSU.out], by rw [HSU.out], HB2⟩
            case measure => simp [intOf]; omega
          · rw [if_neg hlt] at hsu
            have HSU := Aside0.mk hsu
            clear hsu
            go_wp2_with fail
            refine HCall.out.mono ?_
            rintro e w2 ⟨g, c2, T, rfl, hc2, hT, hlT, hd, hb2⟩
            have ct := hT.cell (2 * a + 1) (by omega)
            rw [hd a 1 ham (by omega), HDX.out, Nat.mul_comm 2 a] at ct
            have HB2 := Aside0.mk (below_then HBr.out HBr.out.size hb2)
            clear hd hb2 hlT hT
            go_wp2_with fail
            go_roundw
            case rel => exact ⟨a + 1, by omega, by go_num, by rw [HSU.out], by rw [HSU.out], HB2⟩
            case measure => simp [intOf]; omega
        · obtain rfl : m = a := by omega
          rw [HBz.out]
          have HBr2 := Aside0.mk (below_then HB1.out HB1.out.size HBr.out)
          by_cases h99 : b1 = 99
          · have hR := HR.out
            rw [if_pos h99] at hR
            subst hR
            have h1 := Hrl.out
            have h2 := Hre.out
            simp only [Option.getD_none, Option.isSome_none, Bool.false_eq_true, if_false] at h1 h2
            subst h1 h2 h99
            go_wp2_with fail
            go_ret2
            exact outO_nil _ _ _ HBr2.out
          · have hR := HR.out
            rw [if_neg h99] at hR
            subst hR
            have h1 := Hrl.out
            have h2 := Hre.out
            simp only [Option.getD_some, Option.isSome_some, if_true] at h1 h2
            subst h2
            have hq : z < m ∧ b1 % 2 = 1 ∧ b1 < 99 ∧ 0 < b1 ∧ MinW o z z b1 := by
              obtain ⟨q1, q2, q3⟩ := Hbs.out
              rcases q3 with ⟨q3, _⟩ | ⟨q3, q4, q5, q6⟩
              · exact absurd q3 h99
              · obtain ⟨q7, q8⟩ := dF_wk q5 q4
                exact ⟨q3, q7, q5, by omega, q8, fun k hk hk2 => dF_no (p := 1) (by omega) (by omega)⟩
            obtain ⟨hz, hb2, hb99, hb0, hmin⟩ := hq
            have HMin := Aside0.mk hmin
            have HRL := Aside0.mk h1
            have hne99 : ((b1 : Int) == 99) = false := beq_eq_false_iff_ne.2 (by omega)
            clear h1 h99 hb2 hmin HR Hbs Hrl Hre HBz HBs HBl
            obtain ⟨W, rfl⟩ : ∃ W : World, W = wr := ⟨_, rfl⟩
            have HR1 := Aside0.mk (Kd.R_lower (R_one W z) HBr.out.size)
            have HBa := Aside0.mk (below_alloc HBr.out (.cells #[.int .i64 (z : Nat)] 3))
            clear HBr HBr2
            go_wp2_with fail
            generalize W.alloc (.cells #[.int .i64 (z : Nat)] 3) = W2 at *
            generalize W.heap.size = gz at *
            go_loopg [12] (b1 - 1) (fun d v12 wr => ∃ (pre : List Nat) (last : Nat), pre.length + d = b1 ∧ 1 ≤ pre.length ∧ last < m ∧ Aside0 (pre.getLastD 0 = last) ∧ Aside0 (pre ++ grF o z d last = rl) ∧ Aside0 (MinW o z last (d + 1)) ∧ Aside0 (Kd.R (Kd.int .i64) 3 wr w1.heap.size (fun _ => True) v12 (ints pre)) ∧ Aside0 (Below w1.heap.size w1 wr))
            case atStart => exact ⟨[z], z, by simp; omega, by simp, hz, ⟨rfl⟩, ⟨HRL.out⟩, ⟨by rw [show b1 - 1 + 1 = b1 by omega]; exact HMin.out⟩, HR1, HBa⟩
            case round =>
              clear HR1 HBa HMin HRL
              obtain ⟨pre, last, hpl, hp1, hlm, HLa, HG, HMin, HRp, HB⟩ := hrel
              have HC := Aside0.mk (Kd.C_below HC1.out HB.out)
              obtain ⟨P, hP⟩ : ∃ P, pre.length = P := ⟨_, rfl⟩
              have hil : (ints pre).length = P := by rw [ints_length]; exact hP
              rw [hP] at hpl hp1
              obtain ⟨Ap, cp, rfl, hlp, hCp⟩ := Kd.R_reads HRp.out
              rw [hil] at HRp hCp hlp
              by_cases hd : gk = 0
              · have hF : pre = rl := by have := HG.out; rw [hd] at this; simpa [grF] using this
                have HF := Aside0.mk hF
                have HP := Aside0.mk hP
                have HCp := Aside0.mk hCp
                have hPb : P = b1 := by omega
                rw [hil]
                clear hF hP hCp hil hd hpl
                have hnl : decide (P < b1) = false := by rw [decide_eq_false_iff_not]; omega
                clear hPb
                go_wp2_with fail
                go_ret2
                rw [← HF.out]
                refine ⟨Ap, cp, ?_, by rw [HP.out]; exact hlp, ?_, below_then HB1.out HB1.out.size HB.out⟩
                · rw [HP.out]; rfl
                · rw [HP.out]; exact HCp.out
              · obtain ⟨d, rfl⟩ : ∃ d, gk = d + 1 := ⟨gk - 1, by omega⟩
                have hlt : decide (P < b1) = true := by rw [decide_eq_true_iff]; omega
                obtain ⟨ad, rfl, _⟩ := Kd.at_int hCp 0 (by omega) (by omega)
                obtain ⟨ad1, rfl, _⟩ := Kd.at_int HC.out 0 (by omega) (by omega)
                have HP := Aside0.mk hP
                have HCp := Aside0.mk hCp
                rw [hil]
                clear hP hCp hil hd
                go_wp2_with fail
                obtain ⟨W, rfl⟩ : ∃ W : World, W = wr := ⟨_, rfl⟩
                have HNo0 : Aside0 (NoB o z last (d + 1) 0) := ⟨fun j hj => absurd hj (Nat.not_lt_zero _)⟩
                go_loopw [12, 13] (fun v12 v13 wx => ∃ b : Nat, b ≤ m ∧ v13 = .int .i64 (b : Int) ∧ v12 = .slice (some ad) P cp ∧ Aside0 (NoB o z last (d + 1) b) ∧ Aside0 (Below W.heap.size W wx)) (fun _ v _ => m - (intOf v).toNat)
                case atStart => exact ⟨0, Nat.zero_le _, rfl, rfl, HNo0, ⟨Below.refl _ _⟩⟩
                case round =>
                  clear HNo0
                  obtain ⟨b, hb, rfl, rfl, HNo, HBx⟩ := hrel
                  by_cases hbm : b < m
                  · obtain ⟨_, e0, cl⟩ := Kd.at_int (Kd.C_below HCp.out HBx.out) ((P : Int) - 1) (by omega) (by omega)
                    cases e0
                    rw [getLast_of HLa.out HP.out, show ((P : Int) - 1).toNat = P - 1 by omega] at cl
                    obtain ⟨_, e0, co⟩ := Kd.at_int (Kd.C_below HC.out HBx.out) (last : Int) (by omega) (by omega)
                    cases e0
                    rw [rd_takes o m last hlm, Int.toNat_natCast] at co
                    have hol := HK.out.lt12 last
                    have et := tq (o.getD last 0) b (by omega)
                    have et2 := tq2 (o.getD last 0) b (by omega)
                    cases hbit : (o.getD last 0).testBit b with
                    | false =>
                      have HN1 : Aside0 (NoB o z last (d + 1) (b + 1)) := ⟨HNo.out.succ (by rw [hbit]; rfl)⟩
                      rw [hbit] at et et2
                      clear hbit
                      generalize o.getD last 0 = ol at *
                      go_wp2_with fail
                      go_roundw
                      case rel => exact ⟨b + 1, by omega, by go_num, rfl, HN1, HBx⟩
                      case measure => simp [intOf]; omega
                    | true =>
                      rw [hbit] at et et2
                      obtain ⟨dv, hdv⟩ : ∃ dv, dF o b z ((d + 1) % 2) = dv := ⟨_, rfl⟩
                      have HCall := Aside0.mk (HWk.out b (some ad1) c1 wr hbm (Kd.C_below HC.out HBx.out) hc1)
                      have hi0 : (0 : Int) ≤ ((b1 : Int) - (P : Int)) % 2 := by omega
                      have hi1 : ((b1 : Int) - (P : Int)) % 2 < 2 := by omega
                      have HI : Aside0 ((b1 - P) % 2 = (d + 1) % 2) := ⟨by omega⟩
                      have HPb : Aside0 (P + (d + 1) = b1) := ⟨hpl⟩
                      have hPl : P ≤ b1 := by omega
                      by_cases hde : dv = d + 1
                      · have HGN := Aside0.mk (gr_next HK.out (z := z) (d := d) (last := last) (b := b) (by omega) HMin.out.2 hbit (hdv.trans hde) HNo.out)
                        have HDV := Aside0.mk hdv
                        have heq : ((dv : Int) == (b1 : Int) - (P : Int)) = true := by rw [beq_iff_eq]; omega
                        clear hbit hdv hde hpl
                        generalize o.getD last 0 = ol at *
                        go_wp2_with fail
                        refine HCall.out.mono ?_
                        rintro e w2 ⟨g, c2, T, rfl, hc2, hT, hlT, hdT, hb2⟩
                        have ct := hT.cell (2 * z + (d + 1) % 2) (by omega)
                        rw [hdT z ((d + 1) % 2) hz (by omega), HDV.out, Nat.mul_comm 2 z, ← HI.out] at ct
                        have HBw := Aside0.mk (below_then HBx.out HBx.out.size hb2)
                        clear hdT hb2 hT hlT
                        have HRp2 := Aside0.mk (Kd.R_below HRp.out HBw.out)
                        have HB2 := Aside0.mk (below_then HB.out HB.out.size HBw.out)
                        go_wp2_with (first | ((with_reducible refine gate_builtin (b := .append) (xs := #[.tmp 84, .tmp 86]) rfl ?_); at_builtin; refine Kd.R_append (Kd.int .i64) (w0 := w1) w1.heap.size rfl (.tmp 84) (.tmp 86) 25 3 (.int .i64 0) 8 rfl Try.underlying25 info3 rfl (by decide) (by omega) (.slice (some ad) P cp) (ints pre) b [.int .i64 b] (fun _ => True) (fun _ => False) rfl rfl rfl (fun _ hk => hk.elim) (fun _ _ => trivial) HRp2.out HB2.out HB2.out.size (by rw [ints_length, HP.out]; omega) ?_; intro v9 w9 ho hb hg hat; have HO9 := Aside0.mk ho; have HB9 := Aside0.mk hb; clear ho hb hg hat))
                        go_roundg d
                        case measure => omega
                        case rel =>
                          have hg := HGN.out
                          refine ⟨pre ++ [b], b, by rw [List.length_append, HP.out]; have := HPb.out; simp; omega, by simp, hbm, ⟨by simp⟩, ⟨?_⟩, ⟨⟨hg.2.1, hg.2.2⟩⟩, ⟨by rw [ints_snoc]; exact HO9.out⟩, HB9⟩
                          have h := HG.out
                          rw [hg.1] at h
                          rw [List.append_assoc]
                          exact h
                      · have HN1 : Aside0 (NoB o z last (d + 1) (b + 1)) := ⟨HNo.out.succ (by rw [hbit, hdv, beq_eq_false_iff_ne.2 hde]; rfl)⟩
                        have HDV := Aside0.mk hdv
                        have heq : ((dv : Int) == (b1 : Int) - (P : Int)) = false := by rw [beq_eq_false_iff_ne]; omega
                        clear hbit hdv hde hpl
                        generalize o.getD last 0 = ol at *
                        go_wp2_with fail
                        refine HCall.out.mono ?_
                        rintro e w2 ⟨g, c2, T, rfl, hc2, hT, hlT, hdT, hb2⟩
                        have ct := hT.cell (2 * z + (d + 1) % 2) (by omega)
                        rw [hdT z ((d + 1) % 2) hz (by omega), HDV.out, Nat.mul_comm 2 z, ← HI.out] at ct
                        have HBw := Aside0.mk (below_then HBx.out HBx.out.size hb2)
                        clear hdT hb2 hT hlT
                        go_wp2_with fail
                        go_roundw
                        case rel => exact ⟨b + 1, by omega, by go_num, rfl, HN1, HBw⟩
                        case measure => simp [intOf]; omega
                  · obtain rfl : m = b := by omega
                    exact absurd HNo.out (fun h => gr_some HK.out (z := z) (d := d) (last := last) (by omega) HMin.out.2 HMin.out.1 h)
  · simp only [if_neg he] at HT ⊢
    have hb : (ofE n l != 0) = true := bne_iff_ne.2 he
    clear he
    generalize ofE n l = er at *
    go_enter Try.func29, Try.ntmps29
    go_wp2_with fail
    refine HT.out.mono ?_
    rintro e w1 ⟨A1, c1, rfl, hb1⟩
    have HB1 := Aside0.mk hb1
    clear hb1
    go_wp2_with fail
    go_ret2
    exact outO_nil _ _ _ HB1.out
end Go.Proofs.Ytmobefgnkiboaaa.Im

namespace Go.Proofs.Ytmobefgnkiboaaa.Im
open Go.RowKit Go.Proofs.YtmobefgnkiboaaaW.PrintWords Go.Proofs.YtmobefgnkiboaaaW.PrintLast Go.Proofs.YtmobefgnkiboaaaW.PrintMore
set_option linter.unusedVariables false
theorem grF_len (o : List Nat) (z : Nat) : ∀ (d last : Nat), (grF o z d last).length ≤ d
  | 0, _ => Nat.le_refl _
  | d + 1, last => by
    have eg : grF o z (d + 1) last = match (memL (o.getD last 0)).find? fun c => wkB o (d + 1) c z with
      | some c => c :: grF o z d c
      | none => [] := rfl
    rw [eg]
    cases (memL (o.getD last 0)).find? fun c => wkB o (d + 1) c z with
    | none => simp
    | some c => have := grF_len o z d c; simp; omega
theorem oddO_len (n : Int) (l : List S43) : (listF n l (oddO n l)).length < 1000000 := by
  unfold listF oddO
  by_cases he : ofE n l = 0
  · rw [if_pos he, oddS_eq (okt_of he)]
    unfold oddR
    have h1 := (bestF_spec (townO l) n.toNat).1
    split
    · simp
    · have := grF_len (townO l) (bestF (townO l) n.toNat).2 ((bestF (townO l) n.toNat).1 - 1) (bestF (townO l) n.toNat).2
      simp; omega
  · rw [if_neg he]; simp
theorem memO_len (n : Int) (l : List S43) (x : Option Nat) : (listF n l (x.map memL)).length < 1000000 := by
  unfold listF
  split
  · cases x with
    | none => simp
    | some t => have := memL_len t; simp; omega
  · simp
theorem same_out {K : List Nat} (A7 A6 : Option Addr) (c7 c6 : Nat) (w : World) (hK : K.length < 1000000) (hA : Kd.C (Kd.int .i64) w A6 K.length (ints K)) (ha : K.length ≤ c6) (hB : Kd.C (Kd.int .i64) w A7 K.length (ints K)) (hb : K.length ≤ c7) :
    Calls Try.prog 18 #[.slice A6 K.length c6, .slice A7 K.length c7] w fun e w' => e = .returned (.bool true) ∧ Below w.heap.size w w' := by
  have h := same_any (ints K) A6 A7 c6 c7 w (by rw [ints_length]; exact hK) (by rw [ints_length]; exact hA) (by rw [ints_length]; exact ha) (by rw [ints_length]; exact hB) (by rw [ints_length]; exact hb)
  rw [ints_length] at h
  exact h
set_option maxHeartbeats 1600000 in
set_option maxRecDepth 100000 in
theorem law6_any (n : Int) (A : Option Addr) (c : Nat) (l : List S43) (w : World) (hr : Kd.C k43 w A l.length l) (hc : l.length ≤ c) :
    Calls Try.prog 6 #[.int .i64 n, .slice A l.length c] w fun e w' => e = .returned (.bool true) ∧ Below w.heap.size w w' := by
  have HF := Aside0.mk (few_nil A c l w hr hc)
  have HR := Aside0.mk hr
  clear hr
  by_cases hf : l.length ≤ 150
  · rw [decide_eq_true hf] at HF
    have HS := Aside0.mk (fun (w : World) h1 => progSemi_any n A c l w h1 hc)
    have HS' := Aside0.mk (fun (w : World) h1 => refSemi_any n A c l w h1 hc)
    have HO := Aside0.mk (fun (w : World) h1 => progOdd_any n A c l w h1 hc)
    have HO' := Aside0.mk (fun (w : World) h1 => refOdd_any n A c l w h1 hc)
    have hl1 : (listF n l (semO n l)).length < 1000000 := memO_len n l _
    have hl2 := oddO_len n l
    generalize listF n l (semO n l) = L1 at *
    generalize errF n l (semO n l) = x1 at *
    generalize listF n l (oddO n l) = L2 at *
    generalize errF n l (oddO n l) = x2 at *
    have e1 : (x1 != x1) = false := by simp
    have e2 : (x2 == x2) = true := by simp
    clear hf
    go_enter Try.func6, Try.ntmps6
    go_wp2_with fail
    refine HF.out.mono ?_
    rintro e w1 ⟨rfl, hb1⟩
    have HB1 := Aside0.mk hb1
    have HR1 := Aside0.mk (Kd.C_below HR.out hb1)
    clear hb1
    go_wp2_with fail
    refine (HS.out _ HR1.out).mono ?_
    rintro e w2 ⟨A2, c2, rfl, hc2, hC2, hb2⟩
    have HB2 := Aside0.mk (below_then HB1.out HB1.out.size hb2)
    have HR2 := Aside0.mk (Kd.C_below HR1.out hb2)
    have HC2 := Aside0.mk hC2
    clear hb2 hC2 HB1 HR1
    go_wp2_with fail
    refine (HS'.out _ HR2.out).mono ?_
    rintro e w3 ⟨A3, c3, rfl, hc3, hC3, hb3⟩
    have HB3 := Aside0.mk (below_then HB2.out HB2.out.size hb3)
    have HR3 := Aside0.mk (Kd.C_below HR2.out hb3)
    have HE3 := Aside0.mk (same_out A3 A2 c3 c2 w3 hl1 (Kd.C_below HC2.out hb3) hc2 hC3 hc3)
    clear hb3 hC3 HB2 HR2 HC2
    go_wp2_with fail
    refine HE3.out.mono ?_
    rintro e w4 ⟨rfl, hb4⟩
    have HB4 := Aside0.mk (below_then HB3.out HB3.out.size hb4)
    have HR4 := Aside0.mk (Kd.C_below HR3.out hb4)
    clear hb4 HB3 HR3 HE3
    go_wp2_with fail
    refine (HO.out _ HR4.out).mono ?_
    rintro e w5 ⟨A5, c5, rfl, hc5, hC5, hb5⟩
    have HB5 := Aside0.mk (below_then HB4.out HB4.out.size hb5)
    have HR5 := Aside0.mk (Kd.C_below HR4.out hb5)
    have HC5 := Aside0.mk hC5
    clear hb5 hC5 HB4 HR4
    go_wp2_with fail
    refine (HO'.out _ HR5.out).mono ?_
    rintro e w6 ⟨A6, c6, rfl, hc6, hC6, hb6⟩
    have HB6 := Aside0.mk (below_then HB5.out HB5.out.size hb6)
    have HE6 := Aside0.mk (same_out A6 A5 c6 c5 w6 hl2 (Kd.C_below HC5.out hb6) hc5 hC6 hc6)
    clear hb6 hC6 HB5 HR5 HC5
    go_wp2_with fail
    refine HE6.out.mono ?_
    rintro e w7 ⟨rfl, hb7⟩
    have HB7 := Aside0.mk (below_then HB6.out HB6.out.size hb7)
    clear hb7 HB6 HE6
    go_wp2_with fail
    refine (alive_any _).mono ?_
    rintro e w8 ⟨rfl, hb8⟩
    have HB8 := Aside0.mk (below_then HB7.out HB7.out.size hb8)
    clear hb8
    go_wp2_with fail
    go_ret
    exact ⟨rfl, HB8.out⟩
  · rw [decide_eq_false hf] at HF
    clear hf
    go_enter Try.func6, Try.ntmps6
    go_wp2_with fail
    refine HF.out.mono ?_
    rintro e w1 ⟨rfl, hb1⟩
    have HB1 := Aside0.mk hb1
    clear hb1
    go_wp2_with fail
    refine (alive_any _).mono ?_
    rintro e w5 ⟨rfl, hb5⟩
    have HB5 := Aside0.mk (below_then HB1.out HB1.out.size hb5)
    clear hb5
    go_wp2_with fail
    go_ret
    exact ⟨rfl, HB5.out⟩
end Go.Proofs.Ytmobefgnkiboaaa.Im

namespace Go.Proofs.Ytmobefgnkiboaaa.Im
open Go.RowKit Go.ChangeShapes Go.WideShapes Go.Proofs.YtmobefgnkiboaaaW.PrintWords Go.Proofs.YtmobefgnkiboaaaW.PrintLast Go.Proofs.YtmobefgnkiboaaaW.PrintMore
theorem open_arcs {H : Type} {enc : TypeId × Value → H} {w : World} {base : Nat} {spare : Nat → Bool} {held : Bool} {fuel : Nat} {a : Option Addr} {len cap : Nat} {x : DataW H × List MemPlace}
    (h : DataW.trod enc Try.prog w base spare held fuel 22 [.slice a len cap] = some x) :
    ∃ l : List S43, len = l.length ∧ Kd.C k43 w a l.length l ∧ l.length ≤ cap := by
  rcases Go.Deep.open_slice_pairs Try.underlying22 Try.underlying43 (by kernel_rfl) rfl rfl (by kernel_rfl) (by kernel_rfl) h with ⟨hcs, _⟩ | ⟨b, len', cap', m, n, V0, V1, D0, D1, P0, P1, hcs, hb, hl, hm, hmm, hx, hi⟩
  · simp at hcs
    obtain ⟨rfl, rfl, rfl⟩ := hcs
    exact ⟨[], rfl, ⟨rfl, by simp, fun h => absurd h (by simp)⟩, Nat.le_refl _⟩
  · simp at hcs
    obtain ⟨rfl, rfl, rfl⟩ := hcs
    have hlm : len ≤ m := by rw [hmm]; split <;> omega
    have hint : ∀ i, i < m → ∃ p q : Int, V0 i = .int .i64 p ∧ V1 i = .int .i64 q := fun i him => by
      obtain ⟨_, _, t0, t1⟩ := hi i him
      obtain ⟨p, hp, _⟩ := DataW.trod_int Try.underlying3 t0
      obtain ⟨q, hq, _⟩ := DataW.trod_int Try.underlying3 t1
      exact ⟨p, q, by simpa using hp, by simpa using hq⟩
    let g : Nat → S43 := fun i => ⟨match V0 i with | .int _ p => p | _ => 0, match V1 i with | .int _ q => q | _ => 0⟩
    have hg0 : ∀ i, i < m → V0 i = .int .i64 (g i).f0 := fun i him => by
      obtain ⟨p, q, hp, hq⟩ := hint i him
      simp [g, hp]
    have hg1 : ∀ i, i < m → V1 i = .int .i64 (g i).f1 := fun i him => by
      obtain ⟨p, q, hp, hq⟩ := hint i him
      simp [g, hq]
    refine ⟨(List.range len).map g, by simp, ?_, by simpa using hl⟩
    have hll : ((List.range len).map g).length = len := by simp
    rw [hll]
    refine ⟨hll, by unfold maxLen at hm; omega, fun _ => ⟨b, rfl, fun j p hp => ?_⟩⟩
    have hj : j < len := by
      rcases Nat.lt_or_ge j len with h' | h'
      · exact h'
      · rw [List.getElem?_eq_none (by rw [hll]; exact h')] at hp; cases hp
    have hp' : p = g j := by
      rw [List.getElem?_map, List.getElem?_range hj] at hp
      simpa using hp.symm
    subst hp'
    refine ⟨_, rfl, k43_mk w (g j), fun i u hu => ?_⟩
    obtain ⟨c0, c1, _, _⟩ := hi j (by omega)
    rw [hg0 j (by omega)] at c0
    rw [hg1 j (by omega)] at c1
    match i, hu with
    | 0, hu => simp at hu; subst hu; exact c0
    | 1, hu => simp at hu; subst hu; exact c1
end Go.Proofs.Ytmobefgnkiboaaa.Im

