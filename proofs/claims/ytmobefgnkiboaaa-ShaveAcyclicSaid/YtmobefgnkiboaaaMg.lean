/- Sentences. What every right program knows: 'alive' is true. -/
import Derived.Test.YtmobefgnkiboaaaMf
import Derived.Test.YtmobefgnkiboaaaShelf
namespace Go.Proofs.Ytmobefgnkiboaaa.Im
open Go.RowKit Go.Proofs.YtmobefgnkiboaaaW.PrintWords Go.Proofs.YtmobefgnkiboaaaW.PrintLast Go.Proofs.YtmobefgnkiboaaaW.PrintMore
set_option linter.unusedVariables false

/-- The formula of a person by those to whom an arc leads. -/
def letB (j : Nat) : UInt8 := UInt8.ofNat (97 + j)
def frmL : List Nat → List UInt8
  | [] => [49]
  | [j] => [33, letB j]
  | j :: k :: rest => [40, 33, letB j, 38] ++ frmL (k :: rest) ++ [41]
theorem frmL_len : ∀ l, (frmL l).length ≤ 6 * l.length + 1
  | [] => by simp [frmL]
  | [j] => by simp [frmL]
  | j :: k :: rest => by
    have := frmL_len (k :: rest)
    simp only [frmL, List.length_append, List.length_cons, List.length_nil] at *
    omega
def bytesA (l : List UInt8) : ByteArray := ⟨l.toArray⟩
theorem bytesA_size (l : List UInt8) : (bytesA l).size = l.length := by simp [bytesA, ByteArray.size]
theorem bytesA_append (a b : List UInt8) : bytesA a ++ bytesA b = bytesA (a ++ b) := by
  apply ByteArray.ext
  simp [bytesA, ByteArray.data_append]
theorem joinF (a b : List UInt8) : (Lib.join ([bytesA [40], bytesA a, bytesA [38], bytesA b, bytesA [41]].map (·.data.toList)) (bytesA []).data.toList) = [40] ++ a ++ [38] ++ b ++ [41] := by
  simp [Lib.join, bytesA, List.intercalate, List.intersperse]
theorem frm_step (M : List Nat) (q j : Nat) (h : M.drop q = j :: M.drop (q + 1)) (hq : q + 1 < M.length) : frmL (M.drop q) = [40] ++ [33, letB j] ++ [38] ++ frmL (M.drop (q + 1)) ++ [41] := by
  rw [h]
  have h2 : M.drop (q + 1) = M[q + 1] :: M.drop (q + 1 + 1) := List.drop_eq_getElem_cons hq
  rw [h2]
  simp [frmL]
theorem frm_last (M : List Nat) (q j : Nat) (h : M.drop q = j :: M.drop (q + 1)) (hq : q + 1 = M.length) : frmL (M.drop q) = [33, letB j] := by
  rw [h, hq, List.drop_length]; rfl
def sentB (o : List Nat) (i : Nat) : ByteArray := bytesA (frmL (memL (o.getD i 0)))
def sentAll (n : Nat) (o : List Nat) : Option (List ByteArray) := if (List.range n).all (fun i => decide ((sentB o i).size ≤ 40)) then some ((List.range n).map (sentB o)) else none
def SentR (w : World) (r : Option (List ByteArray)) (e : Ending) (w' : World) : Prop :=
  match r with
  | some l => ∃ v, e = .returned (.tuple #[v, .int .i64 0]) ∧ Kd.R Kd.string 9 w' w.heap.size (fun _ => True) v l ∧ Below w.heap.size w w'
  | none => e = .returned (.tuple #[.slice none 0 0, .int .i64 8]) ∧ Below w.heap.size w w'
def SentPost (n : Int) (l : List S43) (w : World) (e : Ending) (w' : World) : Prop :=
  if ofE n l = 0 then SentR w (if 10 < n then none else sentAll n.toNat (townO l)) e w'
  else e = .returned (.tuple #[.slice none 0 0, .int .i64 (ofE n l)]) ∧ Below w.heap.size w w'

theorem run_rune0 (w : World) : (convert 21 9 (.int .i32 97)).run Try.prog w = .ok (.string (bytesA [letB 0])) w := by kernel_rfl
theorem run_rune1 (w : World) : (convert 21 9 (.int .i32 98)).run Try.prog w = .ok (.string (bytesA [letB 1])) w := by kernel_rfl
theorem run_rune2 (w : World) : (convert 21 9 (.int .i32 99)).run Try.prog w = .ok (.string (bytesA [letB 2])) w := by kernel_rfl
theorem run_rune3 (w : World) : (convert 21 9 (.int .i32 100)).run Try.prog w = .ok (.string (bytesA [letB 3])) w := by kernel_rfl
theorem run_rune4 (w : World) : (convert 21 9 (.int .i32 101)).run Try.prog w = .ok (.string (bytesA [letB 4])) w := by kernel_rfl
theorem run_rune5 (w : World) : (convert 21 9 (.int .i32 102)).run Try.prog w = .ok (.string (bytesA [letB 5])) w := by kernel_rfl
theorem run_rune6 (w : World) : (convert 21 9 (.int .i32 103)).run Try.prog w = .ok (.string (bytesA [letB 6])) w := by kernel_rfl
theorem run_rune7 (w : World) : (convert 21 9 (.int .i32 104)).run Try.prog w = .ok (.string (bytesA [letB 7])) w := by kernel_rfl
theorem run_rune8 (w : World) : (convert 21 9 (.int .i32 105)).run Try.prog w = .ok (.string (bytesA [letB 8])) w := by kernel_rfl
theorem run_rune9 (w : World) : (convert 21 9 (.int .i32 106)).run Try.prog w = .ok (.string (bytesA [letB 9])) w := by kernel_rfl
theorem run_rune10 (w : World) : (convert 21 9 (.int .i32 107)).run Try.prog w = .ok (.string (bytesA [letB 10])) w := by kernel_rfl
theorem run_rune11 (w : World) : (convert 21 9 (.int .i32 108)).run Try.prog w = .ok (.string (bytesA [letB 11])) w := by kernel_rfl
theorem run_rune (j : Nat) (hj : j < 12) (w : World) : (convert 21 9 (.int .i32 (97 + (j : Int)))).run Try.prog w = .ok (.string (bytesA [letB j])) w := by
  rcases j with _|_|_|_|_|_|_|_|_|_|_|_|j
  · exact run_rune0 w
  · exact run_rune1 w
  · exact run_rune2 w
  · exact run_rune3 w
  · exact run_rune4 w
  · exact run_rune5 w
  · exact run_rune6 w
  · exact run_rune7 w
  · exact run_rune8 w
  · exact run_rune9 w
  · exact run_rune10 w
  · exact run_rune11 w
  · omega
theorem l_rune {ops : Array Oper} {Q : Exit → Act → World → Prop} {rest : List Oper} {o : Oper} {a : Act} {w : World} (hgd : o.guard = none) {x : Operand} (ho : o.op = .convert 21 9 x) (j : Nat) (hj : j < 12) (r : Int) (hx : a.eval x = .int .i32 r) (hr : r = 97 + (j : Int))
    (h : wpList Try.prog ops Q rest (a.put o.dst (.string (bytesA [letB j]))) w) : wpList Try.prog ops Q (o :: rest) a w := by
  subst hr
  refine wpList_plain hgd fun K hK => ?_
  have hl := run_rune j hj w
  have e : (execOp a.eval o).run Try.prog w = .ok (.value (.string (bytesA [letB j]))) w := by
    unfold execOp
    simp [ho, hx, hl, Result.andThen]
  unfold Oper.wp
  rw [e]
  exact hK _ _ h
set_option maxHeartbeats 3200000 in
set_option maxRecDepth 100000 in
theorem Sentences_any (n : Int) (A : Option Addr) (c : Nat) (l : List S43) (w : World) (hr : Kd.C k43 w A l.length l) (hc : l.length ≤ c) :
    Calls Try.prog 19 #[.int .i64 n, .slice A l.length c] w (SentPost n l w) := by
  have HO := Aside0.mk (of_A n A c l w hr hc)
  have HZ := Aside0.mk (ofA_size n l)
  have H1 := Aside0.mk (ofA_one n l)
  clear hr hc
  by_cases he : ofE n l = 0
  · have ok := okt_of he
    have hA : ofA n l = tnN n.toNat (townO l) := by rw [ofA, if_pos he]
    have hK : SentPost n l w = SentR w (if 10 < n then none else sentAll n.toNat (townO l)) := by funext e w'; simp [SentPost, he]
    have hnn := (ofE_ok he).1
    rw [hK]
    rw [hA] at HO HZ H1
    rw [he] at HO
    clear he hA hK
    generalize townO l = o at *
    obtain ⟨m, rfl⟩ : ∃ m : Nat, n = m := ⟨n.toNat, by omega⟩
    rw [Int.toNat_natCast] at *
    have HK := Aside0.mk ok
    have n12 := ok.n12
    clear ok hnn
    by_cases h10 : (10 : Int) < m
    · rw [if_pos h10]
      go_enter Try.func19, Try.ntmps19
      go_wp2_with fail
      refine HO.out.mono ?_
      rintro e w1 ⟨rfl, hb⟩
      have HB := Aside0.mk hb
      clear hb HO
      go_wp2_with (refine wpList_store_row rfl 50 _ _ rfl w1.heap.size (tnN m o) rfl rfl 50 (tnN 0 zero12) (heap_alloc_new w1 _) (by rw [info50, HZ.out]) (by rw [HZ.out]; rfl) H1.out ?_; rw [World.setRow_alloc_new])
      go_ret2
      exact ⟨rfl, below_alloc HB.out _⟩
    · rw [if_neg h10]
      have hd10 : decide ((10 : Int) < m) = false := decide_eq_false h10
      obtain ⟨R, hR⟩ : ∃ R, sentAll m o = R := ⟨_, rfl⟩
      rw [hR]
      have HR := Aside0.mk hR
      clear hR
      go_enter Try.func19, Try.ntmps19
      go_wp2_with fail
      refine HO.out.mono ?_
      rintro e w1 ⟨rfl, hb⟩
      have HB := Aside0.mk hb
      clear hb HO
      have HT : Aside0 (TnN (w1.alloc (.cells (tnN m o) 50)) w1.heap.size m o) := ⟨Blk.new _ _ _⟩
      have HB1 := Aside0.mk (below_alloc HB.out (.cells (tnN m o) 50))
      go_wp2_with (refine wpList_store_row rfl 50 _ _ rfl w1.heap.size (tnN m o) rfl rfl 50 (tnN 0 zero12) (heap_alloc_new w1 _) (by rw [info50, HZ.out]) (by rw [HZ.out]; rfl) H1.out ?_; rw [World.setRow_alloc_new])
      generalize w1.alloc (.cells (tnN m o) 50) = W0 at *
      generalize w1.heap.size = g6 at *
      clear HB
      have HW0 := HB1.out.size
      go_loopw [8, 28] (fun v8 v wr => ∃ i : Nat, i ≤ m ∧ v = .int .i64 (i : Int) ∧ Aside0 (Kd.R Kd.string 9 wr w.heap.size (fun _ => True) v8 ((List.range i).map (sentB o))) ∧ Aside0 (∀ j, j < i → (sentB o j).size ≤ 40) ∧ Aside0 (Below w.heap.size w wr) ∧ Aside0 (TnN wr g6 m o)) (fun _ v _ => m - (intOf v).toNat)
      case atStart => exact ⟨0, Nat.zero_le _, rfl, ⟨Kd.R_nil _ _ _ _ _⟩, ⟨fun j hj => absurd hj (by omega)⟩, HB1, HT⟩
      case round =>
        obtain ⟨i, hi, rfl, HR8, HS, HBr, HTr⟩ := hrel
        by_cases him : i < m
        · have co := TnN.cellS HTr.out i (by rw [HK.out.len]; omega)
          rw [Nat.add_comm] at co
          have hnx : o.getD i 0 < 4096 := Nat.lt_of_lt_of_le (HK.out.lt _) (Nat.pow_le_pow_right (by decide) HK.out.n12 : 2 ^ m ≤ 2 ^ 12)
          have hse : sentB o i = bytesA (frmL (memL (o.getD i 0))) := rfl
          generalize o.getD i 0 = nx at *
          have hml := memL_len nx
          have HML := Aside0.mk (fun x (hx : x ∈ memL nx) => memL_lt hx)
          have HM := Aside0.mk (fun w => members_any nx w hnx)
          rw [show memL nx = mem12 nx 0 from rfl] at *
          generalize mem12 nx 0 = M at *
          have hlm : (ints M).length = M.length := ints_length M
          have i0 : (0 : Int) ≤ i := by omega
          have i1 : (i : Int) < 12 := by omega
          have HSE := Aside0.mk hse
          clear hse
          go_wp2_with fail
          refine (HM.out _).mono ?_
          rintro e w3 ⟨v3, rfl, hr3, hb3⟩
          obtain ⟨A3, c3, rfl, hl3, hC3⟩ := Kd.R_reads hr3
          have HB3 := Aside0.mk (below_then HBr.out HBr.out.size hb3)
          have HT3 := Aside0.mk (Blk.later HTr.out hb3)
          have HR3 := Aside0.mk (Kd.R_below HR8.out hb3)
          have HC3 := Aside0.mk hC3
          rw [hlm] at HC3 hl3 ⊢
          clear hr3 hb3 hC3 HM co
          go_wp2_with fail
          go_loopw [11, 12] (fun v11 v wr => ∃ k : Nat, k ≤ M.length ∧ v = .int .i64 ((k : Int) - 1) ∧ v11 = .string (bytesA (frmL (M.drop k))) ∧ Aside0 (Below w3.heap.size w3 wr)) (fun _ v _ => (intOf v + 1).toNat)
          case atStart => exact ⟨M.length, Nat.le_refl _, rfl, by rw [List.drop_length]; rfl, ⟨Below.refl _ _⟩⟩
          case round =>
            obtain ⟨k, hk, rfl, rfl, HBx⟩ := hrel
            by_cases hk0 : 1 ≤ k
            · obtain ⟨q, rfl⟩ : ∃ q, k = q + 1 := ⟨k - 1, by omega⟩
              rw [show (((q + 1 : Nat) : Int) - 1) = (q : Int) by omega]
              obtain ⟨ad, rfl, cx⟩ := Kd.at_int HC3.out (q : Int) (by omega) (by omega)
              replace cx := (HBx.out.cell (World.block_lt_of_cell? w3 _ cx)).trans cx
              rw [rd_ints, Int.toNat_natCast] at cx
              have hje : M.getD q 0 = M[q] := by rw [List.getD_eq_getElem?_getD, List.getElem?_eq_getElem (by omega)]; rfl
              have hj12 : M[q] < 12 := HML.out _ (List.getElem_mem (by omega))
              rw [hje] at cx
              have hdr : M.drop q = M[q] :: M.drop (q + 1) := List.drop_eq_getElem_cons (by omega)
              have HDR := Aside0.mk hdr
              generalize M[q] = j at *
              clear hdr hje
              have hsl : (frmL (M.drop (q + 1))).length ≤ 73 := by have := frmL_len (M.drop (q + 1)); rw [List.length_drop] at this; omega
              by_cases hkm : q + 1 = M.length
              · have neq : ((q : Int) == ((M.length : Int) - 1)) = true := beq_iff_eq.2 (by omega)
                have hf := frm_last M q j HDR.out hkm
                have HF := Aside0.mk hf
                have hown : bytesA [33] ++ bytesA [letB j] = bytesA [33, letB j] := bytesA_append _ _
                have HOW := Aside0.mk hown
                clear hf hown
                generalize frmL (M.drop (q + 1)) = so at *
                go_wp2_with (refine l_rune rfl rfl j hj12 _ rfl rfl ?_)
                go_roundw
                case rel => exact ⟨q, by omega, rfl, by rw [HF.out]; exact congrArg Value.string HOW.out, HBx⟩
                case measure => simp [intOf]; try omega
              · have neq : ((q : Int) == ((M.length : Int) - 1)) = false := beq_eq_false_iff_ne.2 (by omega)
                have hf := frm_step M q j HDR.out (by omega)
                have HF := Aside0.mk hf
                clear hf
                generalize frmL (M.drop (q + 1)) = so at *
                have HOW := Aside0.mk (show bytesA [33] ++ bytesA [letB j] = bytesA [33, letB j] from bytesA_append [33] [letB j])
                have HJN := Aside0.mk (joinF [33, letB j] so)
                go_wp2_with (refine l_rune rfl rfl j hj12 _ rfl rfl ?_)
                have hbw : Below wr.heap.size wr (wr.alloc (.cells #[.string (bytesA [40]), .string (bytesA [33, letB j]), .string (bytesA [38]), .string (bytesA so), .string (bytesA [41])] 9)) := below_alloc (Below.refl _ _) _
                have hJ := Try.strings_Join wr.heap.size 0 5 [bytesA [40], bytesA [33, letB j], bytesA [38], bytesA so, bytesA [41]] (bytesA []) (wr.alloc (.cells #[.string (bytesA [40]), .string (bytesA [33, letB j]), .string (bytesA [38]), .string (bytesA so), .string (bytesA [41])] 9))
                  (fun jj x hx => by
                    rw [Nat.zero_add, (Blk.new wr 9 _).cell jj]
                    match jj, hx with
                    | 0, hx => simp at hx; subst hx; rfl
                    | 1, hx => simp at hx; subst hx; rfl
                    | 2, hx => simp at hx; subst hx; rfl
                    | 3, hx => simp at hx; subst hx; rfl
                    | 4, hx => simp at hx; subst hx; rfl
                    | (n + 5), hx => simp at hx)
                  (by simp) (by simp) (by simp) (by rw [HJN.out]; simp; omega)
                rw [HJN.out, ← HF.out, ← HOW.out] at hJ
                refine hJ.mono ?_
                rintro e w5 ⟨rfl, hb5⟩
                rw [HOW.out] at hb5
                have HB5 := Aside0.mk (below_then HBx.out HBx.out.size (below_then hbw hbw.size hb5))
                clear hbw hJ hb5
                go_wp2_with fail
                go_roundw
                case rel => exact ⟨q, by omega, rfl, rfl, HB5⟩
                case measure => simp [intOf]; try omega
            · obtain rfl : k = 0 := by omega
              rw [List.drop_zero]
              have kz : ¬ (0 : Int) ≤ ((0 : Nat) : Int) - 1 := by omega
              have hfl := frmL_len M
              have hse := HSE.out
              have HS1 : Aside0 ((sentB o i).size = (frmL M).length) := ⟨by rw [hse, bytesA_size]⟩
              generalize frmL M = fM at *
              have hsz : ((bytesA fM).size : Int) = (fM.length : Int) := by rw [bytesA_size]
              have HRx := Aside0.mk (Kd.R_below HR3.out HBx.out)
              have HTx := Aside0.mk (Blk.later HT3.out HBx.out)
              have HBxx := Aside0.mk (below_then HB3.out HB3.out.size HBx.out)
              have HSE2 := Aside0.mk hse
              generalize hsb : bytesA fM = sb at *
              have hs2 : sb.size = fM.length := by rw [← hsb, bytesA_size]
              clear hsb hsz hse
              by_cases h40 : fM.length ≤ 40
              · have h40' : ¬ (40 < (sb.size : Int)) := by omega
                have HS2 : Aside0 (∀ j, j < i + 1 → (sentB o j).size ≤ 40) := ⟨fun j hj => by
                  rcases Nat.lt_or_ge j i with h | h
                  · exact HS.out j h
                  · obtain rfl : j = i := by omega
                    rw [HS1.out]; exact h40⟩
                have HRG : Aside0 ((List.range (i + 1)).map (sentB o) = (List.range i).map (sentB o) ++ [sb]) := ⟨by rw [List.range_succ, List.map_append, ← HSE2.out]; rfl⟩
                have hLl : ((List.range i).map (sentB o)).length = i := by simp
                generalize (List.range i).map (sentB o) = L at *
                have HL := Aside0.mk hLl
                clear hLl hs2
                go_wp2_with (first | ((with_reducible refine gate_builtin (b := .append) (xs := #[.tmp 64, .tmp 66]) rfl ?_); at_builtin; refine Kd.R_append Kd.string (w0 := w) w.heap.size rfl (.tmp 64) (.tmp 66) 31 9 (.string ⟨#[]⟩) 16 rfl Try.underlying31 info9 rfl (by decide) (by omega) u8 L sb [.string sb] (fun _ => True) (fun _ => False) rfl rfl rfl (fun _ hk => hk.elim) (fun _ _ => trivial) HRx.out HBxx.out HBxx.out.size (by have := HL.out; omega) ?_; intro v9 w9 ho hb hg hat; have HO9 := Aside0.mk ho; have HB9 := Aside0.mk hb; have HT9 := Aside0.mk (Blk.gb HTx.out hg (Kd.R_ne HRx.out HTx.out (by decide))); clear ho hb hg hat))
                go_roundw
                case rel => exact ⟨i + 1, by omega, by go_num, ⟨by rw [HRG.out]; exact HO9.out⟩, HS2, HB9, HT9⟩
                case measure => simp [intOf]; try omega
              · have h40' : 40 < (sb.size : Int) := by omega
                have HF := Aside0.mk (show R = none by
                  rw [← HR.out, sentAll, if_neg]
                  rw [List.all_eq_true]
                  intro h
                  have := h i (List.mem_range.2 him)
                  rw [decide_eq_true_eq, HS1.out] at this
                  exact h40 this)
                clear hs2
                go_wp2_with fail
                go_ret2
                rw [HF.out]
                exact ⟨rfl, HBxx.out⟩
        · obtain rfl : i = m := by omega
          have HF := Aside0.mk (show R = some ((List.range i).map (sentB o)) by
            rw [← HR.out, sentAll, if_pos]
            rw [List.all_eq_true]
            exact fun x hx => decide_eq_true (HS.out x (List.mem_range.1 hx)))
          go_wp2_with fail
          go_ret2
          rw [HF.out]
          exact ⟨_, rfl, HR8.out, HBr.out⟩
  · have hK : SentPost n l w = fun e w' => e = .returned (.tuple #[.slice none 0 0, .int .i64 (ofE n l)]) ∧ Below w.heap.size w w' := by funext e w'; simp [SentPost, he]
    rw [hK]
    have hb : (ofE n l != 0) = true := bne_iff_ne.2 he
    have hb' : (ofE n l == 0) = false := beq_eq_false_iff_ne.2 he
    clear hK he
    generalize ofE n l = er at *
    go_enter Try.func19, Try.ntmps19
    go_wp2_with fail
    refine HO.out.mono ?_
    rintro e w1 ⟨rfl, hb⟩
    have HB := Aside0.mk hb
    clear hb HO
    go_wp2_with (refine wpList_store_row rfl 50 _ _ rfl w1.heap.size (ofA n l) rfl rfl 50 (tnN 0 zero12) (heap_alloc_new w1 _) (by rw [info50, HZ.out]) (by rw [HZ.out]; rfl) H1.out ?_)
    go_ret2
    exact ⟨rfl, by rw [World.setRow_alloc_new]; exact below_alloc HB.out _⟩
end Go.Proofs.Ytmobefgnkiboaaa.Im

namespace Go.Proofs.Ytmobefgnkiboaaa.Im
open Go.RowKit Go.Proofs.YtmobefgnkiboaaaW.PrintWords Go.Proofs.YtmobefgnkiboaaaW.PrintLast Go.Proofs.YtmobefgnkiboaaaW.PrintMore
set_option linter.unusedVariables false

theorem run_slice2 (w : World) (A : Option Addr) (n c : Nat) (hn : 2 ≤ n) (hc : n ≤ c) :
    (Instr.sliceAt 22 (.slice A n c) none (some (.int .i64 2)) none).run Try.prog w = .ok (.slice A 2 c) w := by
  have hu : Try.prog.underlying 22 = some (.slice (Try.prog.elem 22)) := by rw [Try.underlying22]; rfl
  rw [run_sliceAt_slice w _ _ _ _ _ hu, run_slice_h w 22 A n c hu .i64 2 (by omega) (by omega)]
  have hs : (sizeOf (Try.prog.elem 22)).run Try.prog w = .ok 2 w := by kernel_rfl
  rw [hs]
  simp only [Result.andThen_ok, sliced]
  cases A with
  | none => simp
  | some b => simp [add_zero]
theorem l_slice2 {ops : Array Oper} {Q : Exit → Act → World → Prop} {rest : List Oper} {o : Oper} {a : Act} {w : World} (hgd : o.guard = none) {x : Operand} (ho : o.op = .slice 22 x none (some (.const (.int .i64 2))) none) (A : Option Addr) (n c : Nat) (hx : a.eval x = .slice A n c) (hn : 2 ≤ n) (hc : n ≤ c)
    (h : wpList Try.prog ops Q rest (a.put o.dst (.slice A 2 c)) w) : wpList Try.prog ops Q (o :: rest) a w := by
  refine wpList_plain hgd fun K hK => ?_
  have hl := run_slice2 w A n c hn hc
  have hy : a.eval (.const (.int .i64 2)) = .int .i64 2 := rfl
  have e : (execOp a.eval o).run Try.prog w = .ok (.value (.slice A 2 c)) w := by
    unfold execOp
    simp [ho, hx, Result.andThen]
    rw [hy, hl]
  unfold Oper.wp
  rw [e]
  exact hK _ _ h
def ring3 : List S43 := [⟨0, 1⟩, ⟨1, 2⟩, ⟨2, 0⟩]
def ring4 : List S43 := [⟨0, 1⟩, ⟨1, 2⟩, ⟨2, 3⟩, ⟨3, 0⟩]
def path3 : List S43 := [⟨0, 1⟩, ⟨1, 2⟩]
theorem ring3_f : pomadelaw02_ring.f 5 3 = some ring3 := by kernel_rfl
theorem ring4_f : pomadelaw02_ring.f 6 4 = some ring4 := by kernel_rfl
theorem k3_E : ofE 3 ring3 = 0 := by decide
theorem k4_E : ofE 4 ring4 = 0 := by decide
theorem p3_E : ofE 3 path3 = 0 := by decide
theorem k3_T : townO ring3 = [2, 4, 1, 0, 0, 0, 0, 0, 0, 0, 0, 0] := by decide
theorem k4_T : townO ring4 = [2, 4, 8, 1, 0, 0, 0, 0, 0, 0, 0, 0] := by decide
theorem p3_T : townO path3 = [2, 4, 0, 0, 0, 0, 0, 0, 0, 0, 0, 0] := by decide
theorem k3_none : firstS (fun s => kerB (3 : Int).toNat (townO ring3) s (2 ^ (3 : Int).toNat - 1)) (3 : Int).toNat = none := by rw [k3_T]; decide
theorem k3_odd : oddS (3 : Int).toNat (townO ring3) = some [0, 1, 2] := by rw [k3_T]; decide
theorem k4_many : manyK (4 : Int).toNat (townO ring4) (2 ^ (4 : Int).toNat) = 2 := by rw [k4_T]; decide
theorem p3_rank : rankF (townO path3) (3 : Int).toNat [] = some [0, 1, 0] := by rw [p3_T]; decide
theorem p3_sent : sentAll (3 : Int).toNat (townO path3) = some [⟨#[33, 98]⟩, ⟨#[33, 99]⟩, ⟨#[49]⟩] := by rw [p3_T]; rfl

theorem ring_any (k : Nat) (n : Int) (r : List S43) (w : World) (h : pomadelaw02_ring.f k n = some r) :
    Calls Try.prog 44 #[.int .i64 n] w fun e w' => ∃ (A : Option Addr) (c : Nat), e = .returned (.slice A r.length c) ∧ r.length ≤ c ∧ Kd.C k43 w' A r.length r ∧ Below w.heap.size w w' :=
  (pomadelaw02_ring.calls k n r w h).mono fun e w' ⟨v, h1, h2, h3⟩ => by
    obtain ⟨A, c, rfl, hl, hC⟩ := Kd.R_reads h2
    exact ⟨A, c, h1, hl, hC, h3⟩
theorem Kernel_ring (A : Option Addr) (c : Nat) (w : World) (hr : Kd.C k43 w A 3 ring3) (hc : 3 ≤ c) :
    Calls Try.prog 23 #[.int .i64 3, .slice A 3 c] w fun e w' => e = .returned (.tuple #[.slice none 0 0, .int .i64 10]) ∧ Below w.heap.size w w' :=
  (Kernel_any 3 A c ring3 w hr hc).mono fun e w' h => by
    unfold KernelPost at h
    rw [if_pos k3_E, k3_none] at h
    exact h
theorem Odd_ring (A : Option Addr) (c : Nat) (w : World) (hr : Kd.C k43 w A 3 ring3) (hc : 3 ≤ c) :
    Calls Try.prog 28 #[.int .i64 3, .slice A 3 c] w fun e w' => ∃ A c, e = .returned (.tuple #[.slice (some A) 3 c, .int .i64 0]) ∧ 3 ≤ c ∧ Kd.C (Kd.int .i64) w' (some A) 3 [0, 1, 2] ∧ Below w.heap.size w w' :=
  (Odd_any 3 A c ring3 w hr hc).mono fun e w' h => by
    unfold OddPost at h
    rw [if_pos k3_E, k3_odd] at h
    exact h
theorem Kernels_ring (A : Option Addr) (c : Nat) (w : World) (hr : Kd.C k43 w A 4 ring4) (hc : 4 ≤ c) :
    Calls Try.prog 24 #[.int .i64 4, .slice A 4 c] w fun e w' => e = .returned (.tuple #[.int .i64 2, .int .i64 0]) ∧ Below w.heap.size w w' :=
  (Kernels_any 4 A c ring4 w hr hc).mono fun e w' h => by
    unfold KernelsPost at h
    rw [if_pos k4_E, k4_many, k4_E] at h
    exact h
theorem Ranks_path (A : Option Addr) (c : Nat) (w : World) (hr : Kd.C k43 w A 2 path3) (hc : 2 ≤ c) :
    Calls Try.prog 16 #[.int .i64 3, .slice A 2 c] w fun e w' => ∃ A c, e = .returned (.tuple #[.slice (some A) 3 c, .int .i64 0]) ∧ 3 ≤ c ∧ Kd.C (Kd.int .i64) w' (some A) 3 [0, 1, 0] ∧ Below w.heap.size w w' :=
  (Ranks_any 3 A c path3 w hr hc).mono fun e w' h => by
    unfold RanksPost at h
    rw [if_pos p3_E, p3_rank] at h
    exact h
theorem Sent_path (A : Option Addr) (c : Nat) (w : World) (hr : Kd.C k43 w A 2 path3) (hc : 2 ≤ c) :
    Calls Try.prog 19 #[.int .i64 3, .slice A 2 c] w fun e w' => ∃ A c, e = .returned (.tuple #[.slice A 3 c, .int .i64 0]) ∧ 3 ≤ c ∧ Kd.C Kd.string w' A 3 [⟨#[33, 98]⟩, ⟨#[33, 99]⟩, ⟨#[49]⟩] ∧ Below w.heap.size w w' :=
  (Sentences_any 3 A c path3 w hr hc).mono fun e w' h => by
    unfold SentPost at h
    rw [if_pos p3_E, if_neg (by omega), p3_sent] at h
    obtain ⟨v, h1, h2, h3⟩ := h
    obtain ⟨A, c, rfl, hl, hC⟩ := Kd.R_reads h2
    exact ⟨A, c, h1, hl, hC, h3⟩
theorem same3 (a b c : Int) (A B : Option Addr) (c0 c1 : Nat) (w : World) (h0 : Kd.C (Kd.int .i64) w A 3 [a, b, c]) (h1 : Kd.C (Kd.int .i64) w B 3 [a, b, c]) (hc0 : 3 ≤ c0) (hc1 : 3 ≤ c1) :
    Calls Try.prog 18 #[.slice A 3 c0, .slice B 3 c1] w fun e w' => e = .returned (.bool true) ∧ Drawn0 w w' :=
  pomadelaw02_same.calls 6 A c0 [a, b, c] B c1 [a, b, c] true w h0 hc0 h1 hc1 (by
    have e1 : wrap64 1 = 1 := by unfold wrap64; omega
    have e2 : wrap64 2 = 2 := by unfold wrap64; omega
    have e3 : wrap64 3 = 3 := by unfold wrap64; omega
    simp [pomadelaw02_same.f, pomadelaw02_same.l0, e1, e2, e3, rd])

set_option maxHeartbeats 3200000 in
set_option maxRecDepth 100000 in
theorem alive_any (w : World) : Calls Try.prog 15 #[] w fun e w' => e = .returned (.bool true) ∧ Below w.heap.size w w' := by
  go_enter Try.func15, Try.ntmps15
  go_wp2_with fail
  refine (ring_any 5 3 ring3 _ ring3_f).mono ?_
  rintro e w1 ⟨A1, c1, rfl, hc1, hC1, hb1⟩
  have HB1 := Aside0.mk hb1
  have HC1 := Aside0.mk hC1
  clear hb1 hC1
  go_wp2_with fail
  refine (Kernel_ring A1 c1 _ HC1.out hc1).mono ?_
  rintro e w2 ⟨rfl, hb2⟩
  have HB2 := Aside0.mk (below_then HB1.out HB1.out.size hb2)
  clear hb2 HB1 HC1
  go_wp2_with fail
  refine (ring_any 5 3 ring3 _ ring3_f).mono ?_
  rintro e w3 ⟨A3, c3, rfl, hc3, hC3, hb3⟩
  have HB3 := Aside0.mk (below_then HB2.out HB2.out.size hb3)
  have HC3 := Aside0.mk hC3
  clear hb3 hC3 HB2
  go_wp2_with fail
  refine (Odd_ring A3 c3 _ HC3.out hc3).mono ?_
  rintro e w4 ⟨A4, c4, rfl, hc4, hC4, hb4⟩
  have HB4 := Aside0.mk (below_then HB3.out HB3.out.size hb4)
  have HC4 := Aside0.mk hC4
  clear hb4 hC4 HB3 HC3
  go_wp2_with fail
  refine (ring_any 6 4 ring4 _ ring4_f).mono ?_
  rintro e w5 ⟨A5, c5, rfl, hc5, hC5, hb5⟩
  have HB5 := Aside0.mk (below_then HB4.out HB4.out.size hb5)
  have HD5 := Aside0.mk (Kd.C_below HC4.out hb5)
  have HC5 := Aside0.mk hC5
  clear hb5 hC5 HB4 HC4
  go_wp2_with fail
  refine (Kernels_ring A5 c5 _ HC5.out hc5).mono ?_
  rintro e w6 ⟨rfl, hb6⟩
  have HB6 := Aside0.mk (below_then HB5.out HB5.out.size hb6)
  have HD6 := Aside0.mk (Kd.C_below HD5.out hb6)
  clear hb6 HB5 HC5 HD5
  go_wp2_with fail
  refine (ring_any 5 3 ring3 _ ring3_f).mono ?_
  rintro e w7 ⟨A7, c7, rfl, hc7, hC7, hb7⟩
  have HB7 := Aside0.mk (below_then HB6.out HB6.out.size hb7)
  have HD7 := Aside0.mk (Kd.C_below HD6.out hb7)
  have hC7t := Kd.C_take (m := 2) hC7 (by decide)
  have HC7 := Aside0.mk hC7t
  have hc7' : 3 ≤ c7 := hc7
  clear hb7 hC7 HB6 HD6 hC7t
  go_wp2_with (refine l_slice2 rfl rfl A7 3 c7 rfl (by omega) hc7' ?_)
  refine (Ranks_path A7 c7 _ HC7.out (by omega)).mono ?_
  rintro e w8 ⟨A8, c8, rfl, hc8, hC8, hb8⟩
  have HB8 := Aside0.mk (below_then HB7.out HB7.out.size hb8)
  have HD8 := Aside0.mk (Kd.C_below HD7.out hb8)
  have HC8 := Aside0.mk hC8
  clear hb8 hC8 HB7 HD7 HC7
  go_wp2_with fail
  refine (ring_any 5 3 ring3 _ ring3_f).mono ?_
  rintro e w9 ⟨A9, c9, rfl, hc9, hC9, hb9⟩
  have HB9 := Aside0.mk (below_then HB8.out HB8.out.size hb9)
  have HD9 := Aside0.mk (Kd.C_below HD8.out hb9)
  have HE9 := Aside0.mk (Kd.C_below HC8.out hb9)
  have hC9t := Kd.C_take (m := 2) hC9 (by decide)
  have HC9 := Aside0.mk hC9t
  have hc9' : 3 ≤ c9 := hc9
  clear hb9 hC9 HB8 HD8 HC8 hC9t
  go_wp2_with (refine l_slice2 rfl rfl A9 3 c9 rfl (by omega) hc9' ?_)
  refine (Sent_path A9 c9 _ HC9.out (by omega)).mono ?_
  rintro e wa ⟨Aa, ca, rfl, hca, hCa, hba⟩
  have HBa := Aside0.mk (below_then HB9.out HB9.out.size hba)
  have HDa := Aside0.mk (Kd.C_below HD9.out hba)
  have HEa := Aside0.mk (Kd.C_below HE9.out hba)
  have HFa := Aside0.mk hCa
  clear hba hCa HB9 HD9 HE9 HC9
  go_wp2_with fail
  have hbb : Below wa.heap.size wa (wa.alloc (.cells #[.int .i64 0, .int .i64 1, .int .i64 2] 3)) := below_alloc (Below.refl _ _) _
  have hCb := C_nums (l := [0, 1, 2]) (Blk.new wa 3 (numsA [0, 1, 2])) (by decide)
  refine (same3 0 1 2 (some A4) (some ⟨wa.heap.size, 0, none⟩) c4 3 _ (Kd.C_below HDa.out hbb) hCb hc4 (by omega)).mono ?_
  rintro e wb ⟨rfl, hdb⟩
  have hbw := below_then hbb hbb.size hdb.below
  have HBb := Aside0.mk (below_then HBa.out HBa.out.size hbw)
  have HEb := Aside0.mk (Kd.C_below HEa.out hbw)
  have HFb := Aside0.mk (Kd.C_below HFa.out hbw)
  clear hbb hCb hdb hbw HBa HDa HEa HFa
  go_wp2_with fail
  have hbc : Below wb.heap.size wb (wb.alloc (.cells #[.int .i64 0, .int .i64 1, .int .i64 0] 3)) := below_alloc (Below.refl _ _) _
  have hCc := C_nums (l := [0, 1, 0]) (Blk.new wb 3 (numsA [0, 1, 0])) (by decide)
  refine (same3 0 1 0 (some A8) (some ⟨wb.heap.size, 0, none⟩) c8 3 _ (Kd.C_below HEb.out hbc) hCc hc8 (by omega)).mono ?_
  rintro e wc ⟨rfl, hdc⟩
  have hbw := below_then hbc hbc.size hdc.below
  have HBc := Aside0.mk (below_then HBb.out HBb.out.size hbw)
  have hFc := Kd.C_below HFb.out hbw
  clear hbc hCc hdc hbw HBb HEb HFb
  obtain ⟨ad, rfl, s0⟩ := Kd.at_string hFc 0 (by omega) (by omega)
  obtain ⟨_, e1, s1⟩ := Kd.at_string hFc 1 (by omega) (by omega)
  cases e1
  obtain ⟨_, e1, s2⟩ := Kd.at_string hFc 2 (by omega) (by omega)
  cases e1
  have s0' : wc.cell? ad = some (.string ⟨#[33, 98]⟩) := s0
  have s1' : wc.cell? ⟨ad.block, ad.off + 1, none⟩ = some (.string ⟨#[33, 99]⟩) := s1
  have s2' : wc.cell? ⟨ad.block, ad.off + 2, none⟩ = some (.string ⟨#[49]⟩) := s2
  clear s0 s1 s2 hFc
  go_wp2_with fail
  go_ret
  exact ⟨rfl, HBc.out⟩
end Go.Proofs.Ytmobefgnkiboaaa.Im
