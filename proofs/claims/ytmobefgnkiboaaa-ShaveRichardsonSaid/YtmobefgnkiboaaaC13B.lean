/- Further parts of the same walk: contracts of the functions that the law reaches, each under the conditions that it states. -/
import Derived.Test.YtmobefgnkiboaaaC13A
namespace Go.Proofs.Ytmobefgnkiboaaa.Im
open Go.RowKit Go.Proofs.YtmobefgnkiboaaaW.PrintWords Go.Proofs.YtmobefgnkiboaaaW.PrintLast Go.Proofs.YtmobefgnkiboaaaW.PrintMore
set_option linter.unusedVariables false
attribute [local go_sem] tnA_zero
def numStep (ranks : List Nat) (a : Nat × Nat) (j : Nat) : Nat × Nat := if j < ranks.length then (a.1 ||| 2 ^ (ranks.getD j 0), a.2) else (a.1, a.2 + 1)
def numN (ranks M : List Nat) : Nat × Nat := M.foldl (numStep ranks) (0, 0)
theorem numN_snoc (ranks M : List Nat) (k : Nat) (h : k < M.length) : numN ranks (M.take (k + 1)) = numStep ranks (numN ranks (M.take k)) M[k] := by
  rw [List.take_succ_eq_append_getElem h]
  unfold numN
  rw [List.foldl_append]
  rfl
theorem numN_lt (ranks : List Nat) (hr : ∀ x ∈ ranks, x ≤ 12) : ∀ (M : List Nat) (a : Nat × Nat), a.1 < 8192 → (M.foldl (numStep ranks) a).1 < 8192
  | [], a, h => h
  | j :: M, a, h => by
    refine numN_lt ranks hr M _ ?_
    unfold numStep
    split
    · rename_i hj
      have : ranks.getD j 0 ≤ 12 := by
        rw [List.getD_eq_getElem?_getD, List.getElem?_eq_getElem hj]
        exact hr _ (List.getElem_mem hj)
      exact Nat.or_lt_two_pow (n := 13) h (Nat.pow_lt_pow_right (by decide) (by omega))
    · exact h
theorem numN_open (ranks : List Nat) : ∀ (M : List Nat) (a : Nat × Nat), (M.foldl (numStep ranks) a).2 ≤ a.2 + M.length
  | [], a => Nat.le_refl _
  | j :: M, a => by
    have := numN_open ranks M (numStep ranks a j)
    have h2 : (numStep ranks a j).2 ≤ a.2 + 1 := by unfold numStep; split <;> simp
    simp only [List.foldl_cons, List.length_cons]
    omega
set_option maxHeartbeats 1600000 in
set_option maxRecDepth 100000 in
theorem numbers_any (n : Nat) (o : List Nat) (i : Nat) (A : Option Addr) (c : Nat) (ranks : List Nat) (w : World) (ok : Okt n o) (hi : i < 12) (hr : Kd.C (Kd.int .i64) w A ranks.length (ints ranks)) (hc : ranks.length ≤ c) (hrl : ranks.length ≤ 12) (hx : ∀ x ∈ ranks, x ≤ 12) :
    Calls Try.prog 80 #[.agg (tnN n o), .int .i64 i, .slice A ranks.length c] w fun e w' => e = .returned (.tuple #[.int .i64 ((numN ranks (memL (o.getD i 0))).1 : Nat), .int .i64 ((numN ranks (memL (o.getD i 0))).2 : Nat)]) ∧ Below w.heap.size w w' := by
  have HR := Aside0.mk hr
  have hlen : (ints ranks).length = ranks.length := ints_length ranks
  have ht : TnN (w.alloc (.cells (tnN n o) 50)) w.heap.size n o := Blk.new _ _ _
  have co := ht.cellS i (by rw [ok.len]; omega)
  rw [Nat.add_comm] at co
  have hnx : o.getD i 0 < 4096 := Nat.lt_of_lt_of_le (ok.lt _) (Nat.pow_le_pow_right (by decide) ok.n12 : 2 ^ n ≤ 2 ^ 12)
  generalize o.getD i 0 = nx at *
  have hml := memL_len nx
  have HML := Aside0.mk (fun x (hx : x ∈ memL nx) => memL_lt hx)
  have HM := Aside0.mk (fun w => members_any nx w hnx)
  have HNL := Aside0.mk (fun k => numN_lt ranks hx ((memL nx).take k) (0, 0) (by decide))
  have HNO := Aside0.mk (fun k => numN_open ranks ((memL nx).take k) (0, 0))
  have HX := Aside0.mk hx
  rw [show memL nx = mem12 nx 0 from rfl] at *
  generalize mem12 nx 0 = M at *
  have hlm : (ints M).length = M.length := ints_length M
  have i0 : (0 : Int) ≤ i := by omega
  have i1 : (i : Int) < 12 := by omega
  clear ht ok hr hx
  unfold tnN at *
  go_enter Try.func80, Try.ntmps80
  go_wp2_with fail
  refine (HM.out _).mono ?_
  rintro e w1 ⟨v1, rfl, hr1, hb1⟩
  obtain ⟨A1, c1, rfl, hl1, hC1⟩ := Kd.R_reads hr1
  have HB1 := Aside0.mk (below_then (below_alloc (Below.refl _ w) (.cells (tnA n (ints o)) 50)) (below_alloc (Below.refl _ w) (.cells (tnA n (ints o)) 50)).size hb1)
  have HC1 := Aside0.mk hC1
  rw [hlm] at HC1 hl1 ⊢
  clear hr1 hb1 hC1 HM co
  go_wp2_with fail
  go_loop [8, 9, 18] (fun v8 v9 v => ∃ k : Nat, k ≤ M.length ∧ v = .int .i64 (k : Int) ∧ v8 = .int .i64 ((numN ranks (M.take k)).1 : Nat) ∧ v9 = .int .i64 ((numN ranks (M.take k)).2 : Nat)) (fun _ _ v => M.length - (intOf v).toNat)
  case atStart => exact ⟨0, Nat.zero_le _, rfl, rfl, rfl⟩
  case round =>
    obtain ⟨k, hk, rfl, rfl, rfl⟩ := hrel
    have b1 : (numN ranks (M.take k)).1 < 8192 := HNL.out k
    have b2 : (numN ranks (M.take k)).2 ≤ k := by have := HNO.out k; rw [List.length_take, Nat.min_eq_left hk] at this; simpa [numN] using this
    by_cases hkl : k < M.length
    · have hs := numN_snoc ranks M k hkl
      have b1' : (numN ranks (M.take (k + 1))).1 < 8192 := HNL.out (k + 1)
      obtain ⟨ad1, rfl, cx⟩ := Kd.at_int HC1.out (k : Int) (by omega) (by omega)
      rw [rd_ints, Int.toNat_natCast] at cx
      have hje : M.getD k 0 = M[k] := by simp [hkl]
      have hjn : M[k] < 12 := HML.out _ (List.getElem_mem hkl)
      rw [hje] at cx
      generalize M[k] = j at *
      generalize numN ranks (M.take k) = a at *
      obtain ⟨a1, a2⟩ := a
      simp only at b1 b2
      by_cases hjr : j < ranks.length
      · have h2 : numN ranks (M.take (k + 1)) = (a1 ||| 2 ^ (ranks.getD j 0), a2) := by rw [hs, numStep, if_pos hjr]
        have hrj : ranks.getD j 0 ≤ 12 := by
          rw [List.getD_eq_getElem?_getD, List.getElem?_eq_getElem hjr]
          exact HX.out _ (List.getElem_mem hjr)
        obtain ⟨ad, rfl, cr⟩ := Kd.at_int HR.out (j : Int) (by omega) (by omega)
        replace cr := (HB1.out.cell (World.block_lt_of_cell? w _ cr)).trans cr
        rw [rd_ints, Int.toNat_natCast] at cr
        generalize ranks.getD j 0 = rj at *
        have e1 : ((a1 ||| 2 ^ rj : Nat) : Int) = bits .or .i64 (a1 : Int) (wrap64 (2 ^ rj)) := by
          rw [wr_pow rj (by omega), b_or a1 _ (by omega) (Nat.pow_lt_pow_right (by decide) (by omega))]
        have H2 := Aside0.mk h2
        have E1 := Aside0.mk e1
        clear hs h2 e1 b1' hje
        go_wp2_with fail
        go_round
        case rel => exact ⟨k + 1, by omega, by go_num, by rw [H2.out, E1.out], by rw [H2.out]⟩
        case measure => simp [intOf]; omega
      · have h2 : numN ranks (M.take (k + 1)) = (a1, a2 + 1) := by rw [hs, numStep, if_neg hjr]
        have H2 := Aside0.mk h2
        clear hs h2 b1' hje
        go_wp2_with fail
        go_round
        case rel => exact ⟨k + 1, by omega, by go_num, by rw [H2.out], by rw [H2.out]; go_num⟩
        case measure => simp [intOf]; omega
    · obtain rfl : k = M.length := by omega
      have HF := Aside0.mk (show M.take M.length = M from List.take_length)
      rw [HF.out]
      go_wp2_with fail
      go_ret2
      exact ⟨rfl, HB1.out⟩
end Go.Proofs.Ytmobefgnkiboaaa.Im
namespace Go.Proofs.Ytmobefgnkiboaaa.Im
open Go.RowKit Go.Proofs.YtmobefgnkiboaaaW.PrintWords Go.Proofs.YtmobefgnkiboaaaW.PrintLast Go.Proofs.YtmobefgnkiboaaaW.PrintMore
set_option linter.unusedVariables false
/-- Can a person have its number? -/
def posB (o ranks : List Nat) (i : Nat) : Bool :=
  !(numN ranks (memL (o.getD i 0))).1.testBit (ranks.getD i 0) && decide ((memL (andN (2 ^ (ranks.getD i 0) - 1) (numN ranks (memL (o.getD i 0))).1)).length ≤ (numN ranks (memL (o.getD i 0))).2)
def possB (o ranks : List Nat) : Bool := (List.range ranks.length).all (posB o ranks)
def PosTo (o ranks : List Nat) (k : Nat) : Prop := ∀ j, j < k → posB o ranks j = true
theorem PosTo.succ {o ranks : List Nat} {k : Nat} (h : PosTo o ranks k) (h1 : posB o ranks k = true) : PosTo o ranks (k + 1) := fun j hj => by
  rcases Nat.lt_or_ge j k with hlt | hge
  · exact h j hlt
  · obtain rfl : j = k := by omega
    exact h1
theorem possB_true {o ranks : List Nat} (h : PosTo o ranks ranks.length) : possB o ranks = true := by
  unfold possB; rw [List.all_eq_true]; exact fun x hx => h x (List.mem_range.1 hx)
theorem possB_false {o ranks : List Nat} {k : Nat} (hk : k < ranks.length) (h : posB o ranks k = false) : possB o ranks = false := by
  unfold possB; rw [List.all_eq_false]; exact ⟨k, List.mem_range.2 hk, by rw [h]; simp⟩
set_option maxHeartbeats 3200000 in
set_option maxRecDepth 100000 in
theorem possible_any (n : Nat) (o : List Nat) (A : Option Addr) (c : Nat) (ranks : List Nat) (w : World) (ok : Okt n o) (hr : Kd.C (Kd.int .i64) w A ranks.length (ints ranks)) (hc : ranks.length ≤ c) (hrl : ranks.length ≤ n) (hx : ∀ x ∈ ranks, x ≤ 12) :
    Calls Try.prog 49 #[.agg (tnN n o), .slice A ranks.length c] w fun e w' => e = .returned (.bool (possB o ranks)) ∧ Below w.heap.size w w' := by
  have HR := Aside0.mk hr
  have hlen : (ints ranks).length = ranks.length := ints_length ranks
  have HT : Aside0 (TnN (w.alloc (.cells (tnN n o) 50)) w.heap.size n o) := ⟨Blk.new _ _ _⟩
  have HB0 := Aside0.mk (below_alloc (Below.refl _ w) (.cells (tnN n o) 50))
  have HK := Aside0.mk ok
  have n12 := ok.n12
  have HX := Aside0.mk hx
  clear hr hx ok
  go_enter Try.func49, Try.ntmps49
  go_wp2_with fail
  generalize w.alloc (.cells (tnN n o) 50) = W at *
  go_loopw [12] (fun v wr => ∃ k : Nat, k ≤ ranks.length ∧ v = .int .i64 (k : Int) ∧ Aside0 (PosTo o ranks k) ∧ Aside0 (Below W.heap.size W wr)) (fun v _ => ranks.length - (intOf v).toNat)
  case atStart => exact ⟨0, Nat.zero_le _, rfl, ⟨fun j hj => absurd hj (by omega)⟩, ⟨Below.refl _ _⟩⟩
  case round =>
    obtain ⟨k, hk, rfl, HP, HB⟩ := hrel
    have HBw := Aside0.mk (below_then HB0.out HB0.out.size HB.out)
    by_cases hkl : k < ranks.length
    · obtain ⟨ad, rfl, cx⟩ := Kd.at_int HR.out (k : Int) (by omega) (by omega)
      replace cx := (HBw.out.cell (World.block_lt_of_cell? w _ cx)).trans cx
      rw [rd_ints, Int.toNat_natCast] at cx
      have hrj : ranks.getD k 0 ≤ 12 := by
        rw [List.getD_eq_getElem?_getD, List.getElem?_eq_getElem hkl]
        exact HX.out _ (List.getElem_mem hkl)
      have hN := numbers_any n o k (some ad) c ranks wr HK.out (by omega) (Kd.C_below HR.out HBw.out) hc (by omega) HX.out
      have hpos : posB o ranks k = (!(numN ranks (memL (o.getD k 0))).1.testBit (ranks.getD k 0) && decide ((memL (andN (2 ^ (ranks.getD k 0) - 1) (numN ranks (memL (o.getD k 0))).1)).length ≤ (numN ranks (memL (o.getD k 0))).2)) := rfl
      have hb1 : (numN ranks (memL (o.getD k 0))).1 < 8192 := numN_lt ranks HX.out _ (0, 0) (by decide)
      have hb2 : (numN ranks (memL (o.getD k 0))).2 ≤ 12 := by have := numN_open ranks (memL (o.getD k 0)) (0, 0); have := memL_len (o.getD k 0); simp only [numN] at *; omega
      generalize numN ranks (memL (o.getD k 0)) = a at *
      obtain ⟨a1, a2⟩ := a
      simp only at hb1 hb2 hN hpos
      generalize ranks.getD k 0 = r at *
      have hp2 : 2 ^ r ≤ 4096 := Nat.pow_le_pow_right (by decide) hrj
      have hp0 : 0 < 2 ^ r := Nat.two_pow_pos r
      have ea : bits .andNot .i64 (wrap64 (wrap64 (2 ^ r) - 1)) (a1 : Int) = ((andN (2 ^ r - 1) a1 : Nat) : Int) := by
        rw [wr_pow r (by omega), show ((2 ^ r : Nat) : Int) - 1 = ((2 ^ r - 1 : Nat) : Int) by omega, wr62' _ (by omega), b_andN _ _ (by omega) (by omega)]
      have hm4 : andN (2 ^ r - 1) a1 < 4096 := andN_lt _ _ 12 (by omega)
      have hMe := Aside0.mk (fun w => members_any (andN (2 ^ r - 1) a1) w hm4)
      rw [← ea] at hMe
      have hml := memL_len (andN (2 ^ r - 1) a1)
      rw [show memL (andN (2 ^ r - 1) a1) = mem12 (andN (2 ^ r - 1) a1) 0 from rfl] at *
      generalize mem12 (andN (2 ^ r - 1) a1) 0 = M at *
      have hlm : (ints M).length = M.length := ints_length M
      have e1 := b_bit1 a1 r (by omega)
      have HT2 := Aside0.mk (Blk.later HT.out HB.out)
      have HN := Aside0.mk hN
      have HPS := Aside0.mk hpos
      clear hN hpos ea hp2 hp0
      have hsz := Aside0.mk (tn_info n o HK.out.len)
      go_wp2_with (refine wpList_load_row rfl 50 _ rfl w.heap.size rfl 50 (tnN n o) (0, 0) _ HT2.out Try.underlying50 rfl hsz.out ?_)
      refine HN.out.mono ?_
      rintro e w2 ⟨rfl, hb2⟩
      have HB2 := Aside0.mk (below_then HB.out HB.out.size hb2)
      clear hb2
      go_wp2_with fail
      refine (hMe.out _).mono ?_
      rintro e w3 ⟨v3, rfl, hr3, hb3⟩
      obtain ⟨A3, c3, rfl, hl3, hC3⟩ := Kd.R_reads hr3
      rw [hlm] at hl3 ⊢
      have HB3 := Aside0.mk (below_then HB2.out HB2.out.size hb3)
      clear hb3 hC3 hr3 hMe
      cases hbit : a1.testBit r
      · rw [hbit] at e1
        have HP1 := Aside0.mk (show posB o ranks k = decide (M.length ≤ a2) by rw [HPS.out, hbit]; rfl)
        clear hbit
        by_cases hle : M.length ≤ a2
        · have HP2 := Aside0.mk (HP.out.succ (HP1.out.trans (decide_eq_true hle)))
          have d1 : ¬ ((a2 : Int) < (M.length : Int)) := by omega
          go_wp2_with fail
          go_roundw
          case rel => exact ⟨k + 1, by omega, by go_num, HP2, HB3⟩
          case measure => simp [intOf]; omega
        · have HF := Aside0.mk (possB_false hkl (HP1.out.trans (decide_eq_false hle)))
          have d1 : (a2 : Int) < (M.length : Int) := by omega
          go_wp2_with fail
          go_ret
          exact ⟨by rw [HF.out]; rfl, below_then HB0.out HB0.out.size HB3.out⟩
      · rw [hbit] at e1
        have HF := Aside0.mk (possB_false hkl (show posB o ranks k = false by rw [HPS.out, hbit]; rfl))
        clear hbit
        go_wp2_with fail
        go_ret
        exact ⟨by rw [HF.out]; rfl, below_then HB0.out HB0.out.size HB3.out⟩
    · obtain rfl : k = ranks.length := by omega
      have HF := Aside0.mk (possB_true HP.out)
      go_wp2_with fail
      go_ret
      exact ⟨by rw [HF.out]; rfl, HBw.out⟩
set_option maxHeartbeats 800000 in
theorem ranked_any (n : Nat) (o : List Nat) (A : Option Addr) (c : Nat) (ranks : List Nat) (w : World) (ok : Okt n o) (hr : Kd.C (Kd.int .i64) w A ranks.length (ints ranks)) (hc : ranks.length ≤ c) (hrl : ranks.length ≤ n) (hx : ∀ x ∈ ranks, x ≤ 12) :
    Calls Try.prog 48 #[.agg (tnN n o), .slice A ranks.length c] w fun e w' => e = .returned (.bool (possB o ranks)) ∧ Below w.heap.size w w' := by
  have HT : Aside0 (TnN (w.alloc (.cells (tnN n o) 50)) w.heap.size n o) := ⟨Blk.new _ _ _⟩
  have HB0 := Aside0.mk (below_alloc (Below.refl _ w) (.cells (tnN n o) 50))
  have hsz := Aside0.mk (tn_info n o ok.len)
  have HP := Aside0.mk (possible_any n o A c ranks (w.alloc (.cells (tnN n o) 50)) ok (Kd.C_below hr HB0.out) hc hrl hx)
  clear hr hx ok
  go_enter Try.func48, Try.ntmps48
  go_wp2_with (refine wpList_load_row rfl 50 _ rfl w.heap.size rfl 50 (tnN n o) (0, 0) _ HT.out Try.underlying50 rfl hsz.out ?_)
  refine HP.out.mono ?_
  rintro e w2 ⟨rfl, hb2⟩
  have HB2 := Aside0.mk (below_then HB0.out HB0.out.size hb2)
  clear hb2
  go_wp2_with fail
  go_ret
  exact ⟨rfl, HB2.out⟩
end Go.Proofs.Ytmobefgnkiboaaa.Im
namespace Go.Proofs.Ytmobefgnkiboaaa.Im
open Go.RowKit Go.Proofs.YtmobefgnkiboaaaW.PrintWords Go.Proofs.YtmobefgnkiboaaaW.PrintLast Go.Proofs.YtmobefgnkiboaaaW.PrintMore
set_option linter.unusedVariables false
def rankF (o : List Nat) : Nat → List Nat → Option (List Nat)
  | 0, ranks => if possB o ranks then some ranks else none
  | d + 1, ranks => (List.range ((memL (o.getD ranks.length 0)).length + 1)).findSome? fun r => if possB o (ranks ++ [r]) then rankF o d (ranks ++ [r]) else none
def mosts (n : Nat) (o : List Nat) : List Nat := (List.range n).map fun i => (memL (o.getD i 0)).length
theorem mosts_len (n : Nat) (o : List Nat) : (mosts n o).length = n := by simp [mosts]
theorem mosts_get (n : Nat) (o : List Nat) (i : Nat) (h : i < n) : (mosts n o).getD i 0 = (memL (o.getD i 0)).length := by simp [mosts, h]
/-- The boxes of the search. -/
structure RankB (w : World) (gn gt gv gm go n : Nat) (o : List Nat) : Prop where
  bn : Blk w gn 3 #[.int .i64 (n : Nat)]
  bt : TnN w gt n o
  bv : Blk w gv 25 #[.slice (some ⟨gm, 0, none⟩) n n]
  bm : Kd.C (Kd.int .i64) w (some ⟨gm, 0, none⟩) n (ints (mosts n o))
  bo : Blk w go 54 #[.func (.func 47) #[] #[.pointer (some ⟨gn, 0, none⟩), .pointer (some ⟨gt, 0, none⟩), .pointer (some ⟨gv, 0, none⟩), .pointer (some ⟨go, 0, none⟩)]]
theorem RankB.later {w w' : World} {gn gt gv gm go n : Nat} {o : List Nat} (h : RankB w gn gt gv gm go n o) (hb : Below w.heap.size w w') : RankB w' gn gt gv gm go n o :=
  ⟨h.bn.later hb, Blk.later h.bt hb, h.bv.later hb, Kd.C_below h.bm hb, h.bo.later hb⟩
set_option maxHeartbeats 3200000 in
set_option maxRecDepth 100000 in
theorem rank1_any (gn gt gv gm go n : Nat) (o : List Nat) (ok : Okt n o) (d : Nat) :
    ∀ (ranks : List Nat) (A : Option Addr) (c : Nat) (w : World), ranks.length + d = n → (∀ x ∈ ranks, x ≤ 12) → RankB w gn gt gv gm go n o →
      Kd.C (Kd.int .i64) w A ranks.length (ints ranks) → (A = none → ranks.length = 0) → ranks.length ≤ c →
      Calls Try.prog 47 #[.slice A ranks.length c, .pointer (some ⟨gn, 0, none⟩), .pointer (some ⟨gt, 0, none⟩), .pointer (some ⟨gv, 0, none⟩), .pointer (some ⟨go, 0, none⟩)] w (FoundP w (rankF o d ranks)) := by
  have qn : ∀ (w : World) (a : Option Addr) (n c n' c' : Nat), (binOp .neq 25 (.slice a n c) (.slice none n' c')).run Try.prog w = .ok (.bool (!a.isNone)) w := fun w a n c n' c' => run_neq_slice_nil_any w _ _ a n c n' c' Try.underlying25
  have n12 := ok.n12
  induction d with
  | zero =>
    intro ranks A c w hl hx hB hr hA hc
    have hlen : (ints ranks).length = ranks.length := ints_length ranks
    have hn1 := ok.n1
    obtain ⟨ad, rfl⟩ := C_some (by rw [hlen]; exact hr) (by omega)
    have cn : w.cell? ⟨gn, 0, none⟩ = some (.int .i64 (n : Nat)) := hB.bn.cell 0
    have hRk := Aside0.mk (ranked_any n o (some ad) c ranks w ok hr hc (by omega) hx)
    have hR : rankF o 0 ranks = if possB o ranks then some ranks else none := rfl
    rw [hR]
    have HR := Aside0.mk hr
    have HT := Aside0.mk hB.bt
    have HL := Aside0.mk hlen
    have hsz := Aside0.mk (tn_info n o ok.len)
    have neq : ((ranks.length : Int) == (n : Int)) = true := beq_iff_eq.2 (by omega)
    clear hR hB hr
    cases hb : possB o ranks
    · rw [hb] at hRk
      rw [if_neg (by simp)]
      clear hb
      go_enter Try.func47, Try.ntmps47
      go_wp2_with (refine wpList_load_row rfl 50 _ rfl gt rfl 50 (tnN n o) (0, 0) _ HT.out Try.underlying50 rfl hsz.out ?_)
      refine hRk.out.mono ?_
      rintro e w2 ⟨rfl, hb2⟩
      have HB2 := Aside0.mk hb2
      clear hb2
      go_wp2_with fail
      go_ret
      exact ⟨rfl, HB2.out⟩
    · rw [hb] at hRk
      rw [if_pos rfl]
      clear hb
      go_enter Try.func47, Try.ntmps47
      go_wp2_with (refine wpList_load_row rfl 50 _ rfl gt rfl 50 (tnN n o) (0, 0) _ HT.out Try.underlying50 rfl hsz.out ?_)
      refine hRk.out.mono ?_
      rintro e w2 ⟨rfl, hb2⟩
      have HB2 := Aside0.mk hb2
      have HR2 := Aside0.mk (Kd.C_below HR.out hb2)
      clear hb2
      go_wp2_with fail
      go_ret
      exact ⟨ad, c, by rw [HL.out]; rfl, by rw [HL.out]; exact hc, by rw [HL.out]; exact HR2.out, HB2.out⟩
  | succ d ih =>
    intro ranks A c w hl hx hB hr hA hc
    have IH := Aside0.mk ih
    have hlen : (ints ranks).length = ranks.length := ints_length ranks
    have cn : w.cell? ⟨gn, 0, none⟩ = some (.int .i64 (n : Nat)) := hB.bn.cell 0
    have cv : w.cell? ⟨gv, 0, none⟩ = some (.slice (some ⟨gm, 0, none⟩) n n) := hB.bv.cell 0
    obtain ⟨_, e0, cm⟩ := Kd.at_int hB.bm (ranks.length : Int) (by omega) (by omega)
    cases e0
    rw [rd_ints, mosts_get n o _ (by omega), Int.toNat_natCast] at cm
    have cm' : w.cell? ⟨gm, ranks.length, none⟩ = some (.int .i64 ((memL (o.getD ranks.length 0)).length : Nat)) := by
      have e : (⟨gm, 0, none⟩ : Addr).add ranks.length = ⟨gm, ranks.length, none⟩ := by unfold Addr.add; split <;> simp_all
      rwa [e] at cm
    have hR : rankF o (d + 1) ranks = (List.range ((memL (o.getD ranks.length 0)).length + 1)).findSome? fun r => if possB o (ranks ++ [r]) then rankF o d (ranks ++ [r]) else none := rfl
    rw [hR]
    have hml := memL_len (o.getD ranks.length 0)
    generalize (memL (o.getD ranks.length 0)).length = most at *
    obtain ⟨gg, hgg⟩ : ∃ gg : Nat → Option (List Nat), gg = fun r => if possB o (ranks ++ [r]) then rankF o d (ranks ++ [r]) else none := ⟨_, rfl⟩
    have HGG := Aside0.mk (fun j => congrFun hgg j)
    rw [← hgg]
    obtain ⟨R, hRR⟩ : ∃ R, (List.range (most + 1)).findSome? gg = R := ⟨_, rfl⟩
    rw [hRR]
    have HRR := Aside0.mk hRR
    have HR := Aside0.mk hr
    have HBB := Aside0.mk hB
    have HX := Aside0.mk hx
    have HA := Aside0.mk hA
    have hsz := Aside0.mk (tn_info n o ok.len)
    have HK := Aside0.mk ok
    have neq : ((ranks.length : Int) == (n : Int)) = false := beq_eq_false_iff_ne.2 (by omega)
    clear hR hB hr hx hA ih hRR hgg cm ok
    go_enter Try.func47, Try.ntmps47
    go_wp2_with fail
    go_loopw [25] (fun v wr => ∃ k : Nat, k ≤ most + 1 ∧ v = .int .i64 (k : Int) ∧ Aside0 (noneTo (List.range (most + 1)) gg k) ∧ Aside0 (Below w.heap.size w wr)) (fun v _ => most + 1 - (intOf v).toNat)
    case atStart => exact ⟨0, Nat.zero_le _, rfl, ⟨noneTo_zero _ _⟩, ⟨Below.refl _ _⟩⟩
    case round =>
      obtain ⟨k, hk, rfl, HN, HB⟩ := hrel
      by_cases hkl : k < most + 1
      · have HN1 := Aside0.mk (fun h => noneTo_succ HN.out (by rw [List.length_range]; exact hkl) h)
        have HN2 := Aside0.mk (fun r h => noneTo_some (r := r) HN.out (by rw [List.length_range]; exact hkl) h)
        simp only [List.getElem_range] at HN1 HN2
        have HBr := Aside0.mk (HBB.out.later HB.out)
        have HRr := Aside0.mk (Kd.C_below HR.out HB.out)
        have HGk := Aside0.mk (HGG.out k)
        have hb3 : Below wr.heap.size wr (wr.alloc (.cells #[.int .i64 (k : Nat)] 3)) := below_alloc (Below.refl _ _) _
        have HC3 := Aside0.mk (Kd.C_below HRr.out hb3)
        have HB3 := Aside0.mk (below_then HB.out HB.out.size hb3)
        have HBr3 := Aside0.mk (HBr.out.later hb3)
        have hg3 := Aside0.mk ((Blk.new wr 3 #[.int .i64 (k : Nat)]).cell 0)
        have ex : ints (ranks ++ [k]) = ints ranks ++ [(k : Int)] := ints_snoc ranks k
        have HE := Aside0.mk ex
        have hl2 : (ints (ranks ++ [k])).length = ranks.length + 1 := by rw [ints_length, List.length_append]; rfl
        have hl3 : (ranks ++ [k]).length = ranks.length + 1 := by rw [List.length_append]; rfl
        have HX2 : Aside0 (∀ x ∈ ranks ++ [k], x ≤ 12) := ⟨fun x hx => by rcases List.mem_append.1 hx with h | h; exact HX.out x h; rw [List.mem_singleton.1 h]; omega⟩
        clear hb3 hl2
        generalize ranks ++ [k] = rk at *
        clear ex
        go_wp2_with (first | (refine l_slice3 rfl rfl A ranks.length c rfl rfl rfl hc ?_) | (at_builtin; refine l_app1 rfl (s := .tmp 31) (x := .tmp 33) rfl rfl A (ints ranks) wr.heap.size (k : Nat) (by rw [hlen]; rfl) rfl (by rw [hlen]; exact HC3.out) hg3.out (by rw [hlen]; omega) (by rw [hlen]; exact HA.out) ?_; intro v4 w4 hr4 hb4; have HR4 := Aside0.mk hr4; have HB4 := Aside0.mk hb4; have HBr4 := Aside0.mk (HBr3.out.later hb4); clear hr4 hb4) | (refine wpList_load_row rfl 50 _ rfl gt rfl 50 (tnN n o) (0, 0) _ (by have h := HBr4.out.bt; exact h) Try.underlying50 rfl hsz.out ?_))
        obtain ⟨A4, c4, rfl, hl4, hC4⟩ := Kd.R_reads HR4.out
        rw [← HE.out, ints_length] at hl4 hC4 ⊢
        have hn4 : A4 = none → rk.length = 0 := fun h => by subst h; have := C_none (l := ints rk) (by rw [ints_length]; exact hC4); rw [← ints_length, this]; rfl
        have HN4 := Aside0.mk hn4
        have HC4 := Aside0.mk hC4
        have HBw4 := Aside0.mk (below_then HB3.out HB3.out.size HB4.out)
        have hgk := HGk.out
        have hPo := possible_any n o A4 c4 rk w4 HK.out hC4 hl4 (by omega) HX2.out
        clear HGk hC4 hn4 HR4 HE
        cases hpb : possB o rk
        · rw [hpb, if_neg (by simp)] at hgk
          rw [hpb] at hPo
          have HPo := Aside0.mk hPo
          have HNx := Aside0.mk (HN1.out hgk)
          clear hpb hgk hPo HN1 HN2 hl3
          refine HPo.out.mono ?_
          rintro e w5 ⟨rfl, hb5⟩
          have HB5 := Aside0.mk (below_then HBw4.out HBw4.out.size hb5)
          clear hb5
          go_wp2_with fail
          go_roundw
          case rel => exact ⟨k + 1, by omega, by go_num, HNx, HB5⟩
          case measure => simp [intOf]; omega
        · rw [hpb, if_pos rfl] at hgk
          rw [hpb] at hPo
          have HPo := Aside0.mk hPo
          clear hpb hPo
          refine HPo.out.mono ?_
          rintro e w5 ⟨rfl, hb5⟩
          have HB5 := Aside0.mk (below_then HBw4.out HBw4.out.size hb5)
          have HBr5 := Aside0.mk (HBr4.out.later hb5)
          have co : w5.cell? ⟨go, 0, none⟩ = some (.func (.func 47) #[] #[.pointer (some ⟨gn, 0, none⟩), .pointer (some ⟨gt, 0, none⟩), .pointer (some ⟨gv, 0, none⟩), .pointer (some ⟨go, 0, none⟩)]) := HBr5.out.bo.cell 0
          have HC5 := Aside0.mk (Kd.C_below HC4.out hb5)
          have hIH := IH.out rk A4 c4 w5 (by omega) HX2.out HBr5.out HC5.out HN4.out hl4
          clear hb5
          cases hro : rankF o d rk with
          | none =>
            rw [hro] at hgk hIH
            have HI := Aside0.mk hIH
            have HNx := Aside0.mk (HN1.out hgk)
            clear hro hgk hIH HN1 HN2 hl3
            go_wp2_with fail
            refine HI.out.mono ?_
            rintro e w6 ⟨rfl, hb6⟩
            have HB6 := Aside0.mk (below_then HB5.out HB5.out.size hb6)
            clear hb6
            go_wp2_with fail
            go_roundw
            case rel => exact ⟨k + 1, by omega, by go_num, HNx, HB6⟩
            case measure => simp [intOf]; omega
          | some res =>
            rw [hro] at hgk hIH
            have HI := Aside0.mk hIH
            have HF := Aside0.mk (HRR.out.symm.trans (HN2.out res hgk))
            clear hro hgk hIH HN1 HN2 hl3
            go_wp2_with fail
            refine HI.out.mono ?_
            rintro e w6 ⟨A6, c6, rfl, hl6, hC6, hb6⟩
            have HB6 := Aside0.mk (below_then HB5.out HB5.out.size hb6)
            have HC6 := Aside0.mk hC6
            have HL6 := Aside0.mk hl6
            clear hb6 hC6 hl6
            go_wp2_with fail
            go_ret
            rw [HF.out]
            exact ⟨A6, c6, rfl, HL6.out, HC6.out, HB6.out⟩
      · obtain rfl : k = most + 1 := by omega
        have HF := Aside0.mk (HRR.out.symm.trans (noneTo_all (l := List.range (most + 1)) (g := gg) (by rw [List.length_range]; exact HN.out)))
        go_wp2_with fail
        go_ret
        rw [HF.out]
        exact ⟨rfl, HB.out⟩
end Go.Proofs.Ytmobefgnkiboaaa.Im
namespace Go.Proofs.Ytmobefgnkiboaaa.Im
open Go.RowKit Go.Proofs.YtmobefgnkiboaaaW.PrintWords Go.Proofs.YtmobefgnkiboaaaW.PrintLast Go.Proofs.YtmobefgnkiboaaaW.PrintMore
set_option linter.unusedVariables false
theorem run_storeAt_int (w : World) (ad : Addr) (u : Value) (v : Int) (hc : w.cell? ad = some u) (hf : w.frozen? ad = false) :
    (Instr.storeAt 3 (.pointer (some ad)) (.int .i64 v)).run Try.prog w = .ok () (w.setCell ad (.int .i64 v)) := by
  go_simp
theorem ex_store1 {a : Act} {o : Oper} {x y : Operand} (ho : o.op = .store 3 x y) (w : World) (ad : Addr) (u : Value) (v : Int) (hx : a.eval x = .pointer (some ad)) (hy : a.eval y = .int .i64 v) (hc : w.cell? ad = some u) (hf : w.frozen? ad = false) :
    (execOp a.eval o).run Try.prog w = .ok .skip (w.setCell ad (.int .i64 v)) := by
  have hl := run_storeAt_int w ad u v hc hf
  unfold execOp
  simp [ho, hx, hy, hl, Result.andThen]
section
variable {ops : Array Oper} {Q : Exit → Act → World → Prop} {md : Region.Mode} {S : World → Prop}
theorem rs {P : Program} {i : Nat} {o : Oper} {fuel : Nat} {listed : Array Bool} {a : Act} {w w' : World} (hr : Region.ready md ops listed = [i]) (hi : ops[i]? = some o) (hd : o.dst = none)
    (hw : Region.wanted o (yielded ops a.tmps) = true) (hx : (execOp a.eval o).run P w = .ok .skip w')
    (hS : S w') (h : wpAnyH P md ops Q S fuel (listed.setIfInBounds i true) a w') : wpAnyH P md ops Q S (fuel + 1) listed a w :=
  ro_one hr (ro_skip hi hw hx ⟨hS, by rw [hd]; exact h⟩)
end
theorem C_nil (w : World) : Kd.C (Kd.int .i64) w none ([] : List Nat).length (ints []) := ⟨rfl, by simp, fun h => absurd h (by simp)⟩
theorem made_nums (m : Nat) : madeCells #[Value.int .i64 0] m = (nums .i64 (List.replicate m 0)).toArray := by
  apply Array.ext'
  apply List.ext_getElem
  · simp [nums, madeCells]
  · intro i h1 h2
    simp [nums, madeCells, Nat.mod_one]
/-- A block of ints, all known. -/
def numsA (l : List Nat) : Array Value := (nums .i64 (ints l)).toArray
theorem numsA_get (l : List Nat) (i : Nat) (h : i < l.length) : (numsA l)[i]? = some (.int .i64 (l.getD i 0 : Nat)) := by
  simp [numsA, nums, ints, h]
theorem numsA_set (l : List Nat) (i v : Nat) : (numsA l).setIfInBounds i (.int .i64 (v : Nat)) = numsA (l.set i v) := by
  simp [numsA, nums, ints, List.map_set]
theorem numsA_zero (m : Nat) : madeCells #[Value.int .i64 0] m = numsA (List.replicate m 0) := by
  rw [made_nums]; simp [numsA, ints]
/-- What is filled so far. -/
def fillTo (l : List Nat) (k : Nat) : List Nat := l.take k ++ List.replicate (l.length - k) 0
theorem fillTo_len (l : List Nat) (k : Nat) (h : k ≤ l.length) : (fillTo l k).length = l.length := by simp [fillTo]; omega
theorem fillTo_zero (l : List Nat) : fillTo l 0 = List.replicate l.length 0 := by simp [fillTo]
theorem fillTo_all (l : List Nat) : fillTo l l.length = l := by simp [fillTo]
theorem fillTo_set (l : List Nat) (k : Nat) (h : k < l.length) : (fillTo l k).set k (l.getD k 0) = fillTo l (k + 1) := by
  unfold fillTo
  have e1 : l.length - k = (l.length - (k + 1)) + 1 := by omega
  have e2 : (l.take k).length = k := by rw [List.length_take]; omega
  have e3 : l.getD k 0 = l[k] := by simp [h]
  rw [e1, List.replicate_succ, List.set_append_right _ _ (by omega), e2, Nat.sub_self, List.set_cons_zero, e3, List.take_succ_eq_append_getElem h, List.append_assoc]
  rfl
theorem C_nums {w : World} {g : Nat} {l : List Nat} (h : Blk w g 3 (numsA l)) (hl : l.length < 1000000) : Kd.C (Kd.int .i64) w (some ⟨g, 0, none⟩) l.length (ints l) := by
  have h1 : w.ownsRow 0 3 1 (.slice (some ⟨g, 0, none⟩) (ints l).length l.length) (ints l).length (encs (Value.int .i64) (ints l)) :=
    ⟨by simp [encs], .inr ⟨g, l.length, numsA l, rfl, Nat.zero_le _, h, by rw [ints_length]; exact Nat.le_refl _, by unfold maxLen; omega, by simp [numsA, nums, ints], by
      have e : (numsA l).toList = encs (Value.int .i64) (ints l) := by simp [numsA, nums, encs]
      rw [e]
      exact List.take_of_length_le (by simp [encs])⟩⟩
  have h2 : Kd.R (Kd.int .i64) 3 w 0 (fun _ => True) (.slice (some ⟨g, 0, none⟩) (ints l).length l.length) (ints l) := Kd.R_of_own h1 (fun _ _ => trivial)
  obtain ⟨A, c, e, _, hC⟩ := Kd.R_reads h2
  injection e with e1
  rw [← e1, ints_length] at hC
  exact hC
theorem ex_idx48 {a : Act} {o : Oper} {x y : Operand} (ho : o.op = .indexAddr 48 x y) (w : World) (g k : Nat) (hx : a.eval x = .pointer (some ⟨g, 1, none⟩)) (hy : a.eval y = .int .i64 (k : Nat)) (hk : k < 12) :
    (execOp a.eval o).run Try.prog w = .ok (.value (.pointer (some ⟨g, 1 + k, none⟩))) w := by
  have h0 : (0 : Int) ≤ k := by omega
  have h1 : (k : Int) < 12 := by omega
  have hl : (Instr.indexAt 48 (.pointer (some ⟨g, 1, none⟩)) (.int .i64 (k : Nat))).run Try.prog w = .ok (.pointer (some ⟨g, 1 + k, none⟩)) w := by go_simp
  unfold execOp
  simp [ho, hx, hy, hl, Result.andThen]
theorem ex_idx25 {a : Act} {o : Oper} {x y : Operand} (ho : o.op = .indexAddr 25 x y) (w : World) (g k n c : Nat) (hx : a.eval x = .slice (some ⟨g, 0, none⟩) n c) (hy : a.eval y = .int .i64 (k : Nat)) (hk : k < n) :
    (execOp a.eval o).run Try.prog w = .ok (.value (.pointer (some ⟨g, k, none⟩))) w := by
  have h0 : (0 : Int) ≤ k := by omega
  have h1 : (k : Int) < n := by omega
  have hl : (Instr.indexAt 25 (.slice (some ⟨g, 0, none⟩) n c) (.int .i64 (k : Nat))).run Try.prog w = .ok (.pointer (some ⟨g, k, none⟩)) w := by go_simp
  unfold execOp
  simp [ho, hx, hy, hl, Result.andThen]
def RanksPost (n : Int) (l : List S43) (w : World) (e : Ending) (w' : World) : Prop :=
  if ofE n l = 0 then FoundE w (rankF (townO l) n.toNat []) e w'
  else e = .returned (.tuple #[.slice none 0 0, .int .i64 (ofE n l)]) ∧ Below w.heap.size w w'
set_option maxHeartbeats 3200000 in
set_option maxRecDepth 100000 in
theorem Ranks_any (n : Int) (A : Option Addr) (c : Nat) (l : List S43) (w : World) (hr : Kd.C k43 w A l.length l) (hc : l.length ≤ c) :
    Calls Try.prog 16 #[.int .i64 n, .slice A l.length c] w (RanksPost n l w) := by
  have hmf : ∀ (fn : Fn) (first cap : Array Value) (w : World), (Instr.makeFunc fn first cap).run Try.prog w = .ok (.func fn first cap) w := fun _ _ _ _ => rfl
  have hsf := fun (a : Addr) (c : Array Value) (w : World) => run_store Try.prog w a (.func (.func 47) #[] c) .plain rfl
  have qn : ∀ (w : World) (a : Option Addr) (n c n' c' : Nat), (binOp .neq 25 (.slice a n c) (.slice none n' c')).run Try.prog w = .ok (.bool (!a.isNone)) w := fun w a n c n' c' => run_neq_slice_nil_any w _ _ a n c n' c' Try.underlying25
  have HO := Aside0.mk (fun w h => of_A n A c l w h hc)
  have HZ := Aside0.mk (ofA_size n l)
  have H1 := Aside0.mk (ofA_one n l)
  have HB0 := Aside0.mk (below_alloc (Below.refl _ w) (.cells #[.int .i64 n] 3))
  have HC0 := Aside0.mk (Kd.C_below hr HB0.out)
  have HN0 := Aside0.mk (Blk.new w 3 #[.int .i64 n])
  clear hr hc
  by_cases he : ofE n l = 0
  · have ok := okt_of he
    have hA : ofA n l = tnN n.toNat (townO l) := by rw [ofA, if_pos he]
    have hK : RanksPost n l w = FoundE w (rankF (townO l) n.toNat []) := by funext e w'; simp [RanksPost, he]
    have hnn := (ofE_ok he).1
    rw [hK]
    rw [hA] at HO HZ H1
    rw [he] at HO
    clear he hA hK
    generalize townO l = o at *
    obtain ⟨m, rfl⟩ : ∃ m : Nat, n = m := ⟨n.toNat, by omega⟩
    rw [Int.toNat_natCast] at *
    have HK := Aside0.mk ok
    have n12 := ok.n12
    have hmk := print_make (P := Try.prog) 25 3 .i64 8 Try.underlying25 info3 (by decide) m (by omega)
    simp only [numsA_zero] at hmk
    obtain ⟨R, hR⟩ : ∃ R, rankF o m [] = R := ⟨_, rfl⟩
    rw [hR]
    have HR := Aside0.mk hR
    clear ok hnn hR
    go_enter Try.func16, Try.ntmps16
    go_wp2_with fail
    refine (HO.out _ HC0.out).mono ?_
    rintro e w1 ⟨rfl, hb⟩
    have HB := Aside0.mk (below_then HB0.out HB0.out.size hb)
    have HN1 := Aside0.mk (HN0.out.later hb)
    have cn := HN1.out.cell 0
    simp only [List.getElem?_toArray, List.getElem?_cons_zero] at cn
    clear hb HO
    have cn1 : (w1.alloc (.cells (tnN m o) 50)).cell? ⟨w.heap.size, 0, none⟩ = some (.int .i64 (m : Nat)) := (HN1.out.alloc _).cell 0
    have cn2 : (((w1.alloc (.cells (tnN m o) 50)).alloc (.cells (numsA (List.replicate m 0)) 3)).alloc (.cells #[.slice (some ⟨w1.heap.size + 1, 0, none⟩) m m] 25)).cell? ⟨w.heap.size, 0, none⟩ = some (.int .i64 (m : Nat)) := (((HN1.out.alloc _).alloc _).alloc _).cell 0
    clear cn
    have HB2 : Aside0 (Below w.heap.size w (((w1.alloc (.cells (tnN m o) 50)).alloc (.cells (numsA (List.replicate m 0)) 3)).alloc (.cells #[.slice (some ⟨w1.heap.size + 1, 0, none⟩) m m] 25))) := ⟨below_alloc (below_alloc (below_alloc HB.out _) _) _⟩
    have HT2 : Aside0 (TnN (((w1.alloc (.cells (tnN m o) 50)).alloc (.cells (numsA (List.replicate m 0)) 3)).alloc (.cells #[.slice (some ⟨w1.heap.size + 1, 0, none⟩) m m] 25)) w1.heap.size m o) := ⟨((Blk.new w1 50 (tnN m o)).alloc _).alloc _⟩
    have HM2 : Aside0 (Blk (((w1.alloc (.cells (tnN m o) 50)).alloc (.cells (numsA (List.replicate m 0)) 3)).alloc (.cells #[.slice (some ⟨w1.heap.size + 1, 0, none⟩) m m] 25)) (w1.heap.size + 1) 3 (numsA (fillTo (mosts m o) 0))) := ⟨by rw [fillTo_zero, mosts_len]; exact (Blk.new' (by simp)).alloc _⟩
    have HV2 : Aside0 (Blk (((w1.alloc (.cells (tnN m o) 50)).alloc (.cells (numsA (List.replicate m 0)) 3)).alloc (.cells #[.slice (some ⟨w1.heap.size + 1, 0, none⟩) m m] 25)) (w1.heap.size + 1 + 1) 25 #[.slice (some ⟨w1.heap.size + 1, 0, none⟩) m m]) := ⟨Blk.new' (by simp)⟩
    have HN2 : Aside0 (Blk (((w1.alloc (.cells (tnN m o) 50)).alloc (.cells (numsA (List.replicate m 0)) 3)).alloc (.cells #[.slice (some ⟨w1.heap.size + 1, 0, none⟩) m m] 25)) w.heap.size 3 #[.int .i64 (m : Nat)]) := ⟨((HN1.out.alloc _).alloc _).alloc _⟩
    have HD : Aside0 (w1.heap.size ≠ w1.heap.size + 1 ∧ w1.heap.size + 1 + 1 ≠ w1.heap.size + 1 ∧ w.heap.size ≠ w1.heap.size + 1 ∧ w.heap.size ≤ w1.heap.size + 1) := ⟨by have := HB.out.size; omega⟩
    go_wp2_with (refine wpList_store_row rfl 50 _ _ rfl w1.heap.size (tnN m o) rfl rfl 50 (tnN 0 zero12) (heap_alloc_new w1 _) (by rw [info50, HZ.out]) (by rw [HZ.out]; rfl) H1.out ?_; rw [World.setRow_alloc_new])
    clear cn1 cn2 hmk HN1 HB HB0 HC0 HN0
    generalize w1.heap.size + 1 + 1 = g8 at *
    generalize w1.heap.size + 1 = gm at *
    generalize w1.heap.size = g6 at *
    generalize ((w1.alloc (.cells (tnN m o) 50)).alloc (.cells (numsA (List.replicate m 0)) 3)).alloc (.cells #[.slice (some ⟨gm, 0, none⟩) m m] 25) = W2 at *
    go_loopw [24] (fun v wr => ∃ k : Nat, k ≤ m ∧ v = .int .i64 (k : Int) ∧ Aside0 (Below w.heap.size w wr) ∧ Aside0 (TnN wr g6 m o) ∧ Aside0 (Blk wr g8 25 #[.slice (some ⟨gm, 0, none⟩) m m]) ∧ Aside0 (Blk wr w.heap.size 3 #[.int .i64 (m : Nat)]) ∧ Aside0 (Blk wr gm 3 (numsA (fillTo (mosts m o) k)))) (fun v _ => m - (intOf v).toNat)
    case atStart => exact ⟨0, Nat.zero_le _, rfl, HB2, HT2, HV2, HN2, HM2⟩
    case round =>
      obtain ⟨k, hk, rfl, HBr, HTr, HVr, HN, HMM⟩ := hrel
      by_cases hkl : k < m
      · obtain ⟨nx, hnx⟩ : ∃ nx, o.getD k 0 = nx := ⟨_, rfl⟩
        have hn4 : nx < 4096 := by rw [← hnx]; exact Nat.lt_of_lt_of_le (HK.out.lt _) (Nat.pow_le_pow_right (by decide) HK.out.n12 : 2 ^ m ≤ 2 ^ 12)
        have HNX := Aside0.mk hnx
        have HM := Aside0.mk (fun w => members_any nx w hn4)
        obtain ⟨M, hM⟩ : ∃ M, mem12 nx 0 = M := ⟨_, rfl⟩
        have HMl : Aside0 ((memL nx).length = M.length) := ⟨by rw [← hM]; rfl⟩
        rw [hM] at HM
        have hlm : (ints M).length = M.length := ints_length M
        have hS0 : Aside0 (TnN wr.drew g6 m o ∧ Blk wr.drew g8 25 #[.slice (some ⟨gm, 0, none⟩) m m] ∧ Below w.heap.size w wr.drew) := ⟨HTr.out, HVr.out, below_drew HBr.out⟩
        clear hnx hM
        go_wp2_with fail
        refine wp_region_held (S := fun wx => TnN wx g6 m o ∧ Blk wx g8 25 #[.slice (some ⟨gm, 0, none⟩) m m] ∧ Below w.heap.size w wx) (by kernel_rfl) ?_
        refine tk (i := 0) 27 (v := .slice (some ⟨gm, 0, none⟩) m m) rfl rfl (by kernel_rfl) (by kernel_rfl) (by kernel_rfl) (fun _ _ _ h => h) (by kernel_rfl) (fun wx h => ex_load1 rfl wx ⟨g8, 0, none⟩ _ rfl (h.2.1.cell 0) (fun w => by kernel_rfl)) hS0.out ?_
        simp only [pt_lit, List.set_cons_succ, List.set_cons_zero]
        refine tk (i := 1) 28 (v := .int .i64 (k : Nat)) rfl rfl (by kernel_rfl) (by kernel_rfl) (by kernel_rfl) (fun _ _ _ h => h) (by kernel_rfl) (fun wx _ => by kernel_rfl) hS0.out ?_
        simp only [pt_lit, List.set_cons_succ, List.set_cons_zero]
        refine tk (i := 2) 29 (v := .int .i64 (k : Nat)) rfl rfl (by kernel_rfl) (by kernel_rfl) (by kernel_rfl) (fun _ _ _ h => h) (by kernel_rfl) (fun wx _ => by kernel_rfl) hS0.out ?_
        simp only [pt_lit, List.set_cons_succ, List.set_cons_zero]
        refine tk (i := 3) 30 (v := .pointer (some ⟨g6, 1, none⟩)) rfl rfl (by kernel_rfl) (by kernel_rfl) (by kernel_rfl) (fun _ _ _ h => h) (by kernel_rfl) (fun wx _ => by kernel_rfl) hS0.out ?_
        simp only [pt_lit, List.set_cons_succ, List.set_cons_zero]
        refine tk (i := 4) 31 (v := .pointer (some ⟨g6, 1 + k, none⟩)) rfl rfl (by kernel_rfl) (by kernel_rfl) (by kernel_rfl) (fun _ _ _ h => h) (by kernel_rfl) (fun wx _ => ex_idx48 rfl wx g6 k rfl rfl (by omega)) hS0.out ?_
        simp only [pt_lit, List.set_cons_succ, List.set_cons_zero]
        refine tk (i := 5) 32 (v := .int .i64 (nx : Nat)) rfl rfl (by kernel_rfl) (by kernel_rfl) (by kernel_rfl) (fun _ _ _ h => h) (by kernel_rfl) (fun wx h => ex_load1 rfl wx ⟨g6, 1 + k, none⟩ _ rfl ((by rw [Nat.add_comm, ← HNX.out]; exact TnN.cellS h.1 k (by rw [HK.out.len]; omega))) (fun w => by kernel_rfl)) hS0.out ?_
        simp only [pt_lit, List.set_cons_succ, List.set_cons_zero]
        refine rc (i := 6) 33 (f := 46) (args := #[.int .i64 (nx : Nat)]) (by kernel_rfl) rfl rfl (by kernel_rfl) (by kernel_rfl) ?_
        refine (HM.out _).mono ?_
        rintro e w3 ⟨v3, rfl, hr3, hb3⟩
        obtain ⟨A3, c3, rfl, hl3, hC3⟩ := Kd.R_reads hr3
        have hS3 : Aside0 (TnN w3 g6 m o ∧ Blk w3 g8 25 #[.slice (some ⟨gm, 0, none⟩) m m] ∧ Below w.heap.size w w3) := ⟨Blk.later hS0.out.1 hb3, hS0.out.2.1.later hb3, below_then hS0.out.2.2 hS0.out.2.2.size hb3⟩
        have hM3 := Aside0.mk (Blk.later (Blk.drew HMM.out) hb3)
        have hN3 := Aside0.mk (Blk.later (Blk.drew HN.out) hb3)
        refine ⟨_, rfl, hS3.out, ?_⟩
        rw [hlm]
        clear hr3 hb3 hC3 hl3
        simp only [pt_lit, List.set_cons_succ, List.set_cons_zero]
        refine tk (i := 7) 34 (v := .int .i64 (M.length : Nat)) rfl rfl (by kernel_rfl) (by kernel_rfl) (by kernel_rfl) (fun _ _ _ h => h) (by kernel_rfl) (fun wx _ => by kernel_rfl) hS3.out ?_
        simp only [pt_lit, List.set_cons_succ, List.set_cons_zero]
        refine tk (i := 8) 35 (v := .pointer (some ⟨gm, k, none⟩)) rfl rfl (by kernel_rfl) (by kernel_rfl) (by kernel_rfl) (fun _ _ _ h => h) (by kernel_rfl) (fun wx _ => ex_idx25 rfl wx gm k m m rfl rfl (by omega)) hS3.out ?_
        simp only [pt_lit, List.set_cons_succ, List.set_cons_zero]
        refine rs (i := 9) (w' := w3.setCell ⟨gm, k, none⟩ (.int .i64 (M.length : Nat))) (by kernel_rfl) rfl rfl (by kernel_rfl) (ex_store1 rfl w3 ⟨gm, k, none⟩ _ _ rfl rfl ((hM3.out.cell k).trans (numsA_get _ k (by rw [fillTo_len _ _ (by rw [mosts_len]; omega), mosts_len]; omega))) (hM3.out.frozen k)) ⟨hS3.out.1.far HD.out.1 _, hS3.out.2.1.far HD.out.2.1 _, hS3.out.2.2.grown (gb_set _ _ _) hS3.out.2.2.size (fun g h => by cases h; exact HD.out.2.2.2)⟩ ?_
        skip
        refine wpAnyH_done (by kernel_rfl) ?_ _
        have hB5 : Aside0 (Below w.heap.size w (w3.setCell ⟨gm, k, none⟩ (.int .i64 (M.length : Nat)))) := ⟨hS3.out.2.2.grown (gb_set _ _ _) hS3.out.2.2.size (fun g h => by cases h; exact HD.out.2.2.2)⟩
        have hT5 : Aside0 (TnN (w3.setCell ⟨gm, k, none⟩ (.int .i64 (M.length : Nat))) g6 m o) := ⟨hS3.out.1.far HD.out.1 _⟩
        have hV5 : Aside0 (Blk (w3.setCell ⟨gm, k, none⟩ (.int .i64 (M.length : Nat))) g8 25 #[.slice (some ⟨gm, 0, none⟩) m m]) := ⟨hS3.out.2.1.far HD.out.2.1 _⟩
        have hN5 : Aside0 (Blk (w3.setCell ⟨gm, k, none⟩ (.int .i64 (M.length : Nat))) w.heap.size 3 #[.int .i64 (m : Nat)]) := ⟨hN3.out.far HD.out.2.2.1 _⟩
        have hM5 : Aside0 (Blk (w3.setCell ⟨gm, k, none⟩ (.int .i64 (M.length : Nat))) gm 3 (numsA (fillTo (mosts m o) (k + 1)))) := ⟨by
          have h5 := Blk.set_ hM3.out k (.int .i64 (M.length : Nat))
          rw [numsA_set] at h5
          have h6 := fillTo_set (mosts m o) k (by rw [mosts_len]; omega)
          rw [mosts_get m o k (by omega), HNX.out, HMl.out] at h6
          rw [h6] at h5
          exact h5⟩
        generalize w3.setCell ⟨gm, k, none⟩ (.int .i64 (M.length : Nat)) = w5 at *
        clear hS3 hM3 hN3 hS0 HMM HN
        go_wp2_with fail
        go_roundw
        case rel => exact ⟨k + 1, by omega, by go_num, hB5, hT5, hV5, hN5, hM5⟩
        case measure => simp [intOf]; omega
      · obtain rfl : k = m := by omega
        have hfa : fillTo (mosts k o) k = mosts k o := by have := fillTo_all (mosts k o); rwa [mosts_len] at this
        have hM1 := HMM.out
        rw [hfa] at hM1
        have hb9 : Below wr.heap.size wr (wr.alloc (.cells #[.func (.func 47) #[] #[.pointer (some ⟨w.heap.size, 0, none⟩), .pointer (some ⟨g6, 0, none⟩), .pointer (some ⟨g8, 0, none⟩), .pointer (some ⟨wr.heap.size, 0, none⟩)]] 54)) := below_alloc (Below.refl _ _) _
        have hC9 := C_nums (hM1.later hb9) (by rw [mosts_len]; omega)
        rw [mosts_len] at hC9
        have hRB : RankB (wr.alloc (.cells #[.func (.func 47) #[] #[.pointer (some ⟨w.heap.size, 0, none⟩), .pointer (some ⟨g6, 0, none⟩), .pointer (some ⟨g8, 0, none⟩), .pointer (some ⟨wr.heap.size, 0, none⟩)]] 54)) w.heap.size g6 g8 gm wr.heap.size k o :=
          ⟨HN.out.later hb9, Blk.later HTr.out hb9, HVr.out.later hb9, hC9, Blk.new _ _ _⟩
        have hI := rank1_any w.heap.size g6 g8 gm wr.heap.size k o HK.out k [] none 0 _ (by simp) (fun x hx => by cases hx) hRB (C_nil _) (fun _ => rfl) (by simp)
        rw [HR.out] at hI
        have HI := Aside0.mk hI
        have HB9 := Aside0.mk (below_then HBr.out HBr.out.size hb9)
        clear hI hRB hC9 hb9 hM1 hfa
        go_wp2_with fail
        refine HI.out.mono ?_
        cases R with
        | none =>
          rintro e w6 ⟨rfl, hb6⟩
          have HB6 := Aside0.mk (below_then HB9.out HB9.out.size hb6)
          clear hb6
          go_wp2_with fail
          go_ret2
          exact ⟨rfl, HB6.out⟩
        | some res =>
          rintro e w6 ⟨A6, c6, rfl, hl6, hC6, hb6⟩
          have HB6 := Aside0.mk (below_then HB9.out HB9.out.size hb6)
          have HC6 := Aside0.mk hC6
          have HL6 := Aside0.mk hl6
          clear hb6 hC6 hl6
          go_wp2_with fail
          go_ret2
          exact ⟨A6, c6, rfl, HL6.out, HC6.out, HB6.out⟩
  · have hK : RanksPost n l w = fun e w' => e = .returned (.tuple #[.slice none 0 0, .int .i64 (ofE n l)]) ∧ Below w.heap.size w w' := by funext e w'; simp [RanksPost, he]
    rw [hK]
    have hb : (ofE n l != 0) = true := bne_iff_ne.2 he
    have hb' : (ofE n l == 0) = false := beq_eq_false_iff_ne.2 he
    clear hK he
    generalize ofE n l = er at *
    go_enter Try.func16, Try.ntmps16
    go_wp2_with fail
    refine (HO.out _ HC0.out).mono ?_
    rintro e w1 ⟨rfl, hb⟩
    have HB := Aside0.mk (below_then HB0.out HB0.out.size hb)
    clear hb HO
    go_wp2_with (refine wpList_store_row rfl 50 _ _ rfl w1.heap.size (ofA n l) rfl rfl 50 (tnN 0 zero12) (heap_alloc_new w1 _) (by rw [info50, HZ.out]) (by rw [HZ.out]; rfl) H1.out ?_)
    go_ret2
    exact ⟨rfl, by rw [World.setRow_alloc_new]; exact below_alloc HB.out _⟩
end Go.Proofs.Ytmobefgnkiboaaa.Im

namespace Go.Proofs.Ytmobefgnkiboaaa.Im
open Go.RowKit Go.Proofs.YtmobefgnkiboaaaW.PrintWords Go.Proofs.YtmobefgnkiboaaaW.PrintLast Go.Proofs.YtmobefgnkiboaaaW.PrintMore
attribute [local go_sem] max2_int min2_int max_two min_two max_three min_three max_four min_four
set_option linter.unusedVariables false
set_option linter.unusedSimpArgs false
def pomadelaw02_valid.f (k : Nat) (a0 : Int) (l1 : List (S43)) : Option (Bool) := (pomaderef02_Town.f k a0 l1).bind fun bt125 => (some (bt125.2 == 0))
theorem pomadelaw02_valid.mono : ∀ a0 a1 k, LeO (pomadelaw02_valid.f k a0 a1) (pomadelaw02_valid.f (k + 1) a0 a1) := by
  intro a0 a1 k
  unfold pomadelaw02_valid.f
  repeat' first
      | (with_reducible exact pomaderef02_Town.mono _ _ _)
      | (with_reducible exact LeO.refl _)
      | (with_reducible exact LeO.none _)
      | (with_reducible refine LeO.ite ?_ ?_)
      | (with_reducible refine LeO.bind ?_ (fun _ => ?_))
      | exact pomaderef02_Town.mono _ _ _
      | exact LeO.none _
      | refine LeO.ite ?_ ?_
      | refine LeO.bind ?_ (fun _ => ?_)
set_option maxHeartbeats 8000000 in
set_option maxRecDepth 100000 in
theorem pomadelaw02_valid.calls (k : Nat) (a0 : Int) (A1 : Option Addr) (c1 : Nat) (l1 : List (S43)) (r : Bool) (w : World) (hr1 : Kd.C k43 w A1 l1.length l1) (hc1 : l1.length ≤ c1) (h : pomadelaw02_valid.f k a0 l1 = some r) :
    Calls Try.prog 21 #[.int .i64 a0, .slice A1 l1.length c1] w fun e w' => e = .returned (.bool r) ∧ Below w.heap.size w w' := by
  have HR1 := Aside0.mk hr1
  have HC1 := Aside0.mk hc1
  clear hr1 hc1
  have HB := Aside0.mk (Below.refl w.heap.size w)
  have H : ((pomaderef02_Town.f k a0 l1).bind fun bt125 => (some (bt125.2 == 0))) = some r := h
  clear h
  replace H := Option.bind_eq_some_iff.mp H
  obtain ⟨⟨t125, t126⟩, A30, H⟩ := H
  replace H : (some (t126 == 0)) = some r := H
  have A3 := Aside0.mk A30
  clear A30
  obtain rfl := Option.some.inj H
  go_enter Try.func21, Try.ntmps21
  go_wp2_with (first | ((with_reducible refine gate_callee (f := 50) rfl ?_); refine goesL_ (some 10) rfl rfl Try.func50 (by kernel_rfl) rfl #[.int .i64 a0, .slice A1 l1.length c1] rfl (by (try simp only [List.map_toArray, List.map_cons, List.map_nil]); first | done | rfl | (simp only [List.length_drop, List.length_take]; rfl)) ?_; (with_reducible refine (pomaderef02_Town.calls k a0 _ _ l1 t125 t126 _ ?side1 ?side2 A3.out).mono ?_); (case side1 => repeat (first | exact HR1.out | (with_reducible refine Kd.C_alloc ?_ _) | (with_reducible refine Kd.C_drewN ?_ _) | (with_reducible refine Kd.C_drew ?_))); (case side2 => exact HC1.out); rintro e w4 ⟨v127, rfl, ho0, hb⟩; refine ⟨_, rfl, ?_⟩; have n0_ := Aside0.mk (Kd.R_lower ho0 (below_size (by repeat (first | (with_reducible first | exact HB.out | apply below_alloc | apply pw_below_drewN | apply below_drew1) | exact HB.out)))); have n1_ := Aside0.mk (below_step (by repeat (first | (with_reducible first | exact HB.out | apply below_alloc | apply pw_below_drewN | apply below_drew1) | exact HB.out)) hb); clear HB; have HO128 := n0_; have HB := n1_; clear n0_ n1_; (try clear hb); (try clear hb2); (try clear hk); (try clear hi); (try clear ho0)))
  go_ret
  exact ⟨by first | rfl | (simp [errW_none, errW_some] <;> rfl) | (simp [*, errW_none, errW_some] <;> rfl), by repeat (first | (with_reducible first | exact HB.out | apply below_alloc | apply pw_below_drewN | apply below_drew1) | exact HB.out)⟩
mutual
def pomaderef02_Round.l0 : Nat → Int → List Int → Int → Bool → Option (Bool)
  | 0, _, _, _, _ => none
  | k + 1, x0, x5, x7, x8 => if x8 = true then (pomaderef02_Round.l1 k x0 x5 x7 false 0) else (some (x7 != 0))
def pomaderef02_Round.l1 : Nat → Int → List Int → Int → Bool → Int → Option (Bool)
  | 0, _, _, _, _, _ => none
  | k + 1, x0, x5, x7, x8, x9 => if x9 < x0 then (if 0 ≤ x9 then (if (Int.tmod (shr .i64 x7 x9) 2) = 1 then (if x9 < (x5.length : Int) then (if (Go.bits .and .i64 (rd x5 x9) x7) = 0 then (pomaderef02_Round.l1 k x0 x5 (wrap64 (x7 - (shl .i64 1 x9))) true (wrap64 (x9 + 1))) else (pomaderef02_Round.l1 k x0 x5 x7 x8 (wrap64 (x9 + 1)))) else (none)) else (pomaderef02_Round.l1 k x0 x5 x7 x8 (wrap64 (x9 + 1)))) else (none)) else (pomaderef02_Round.l0 k x0 x5 x7 x8)
end
def pomaderef02_Round.f (k : Nat) (a0 : Int) (l1 : List (S43)) : Option (Bool) := (pomaderef02_Town.f k a0 l1).bind fun bt129 => (if bt129.2 = 0 then (if 0 ≤ a0 then (pomaderef02_Round.l0 k a0 bt129.1 (wrap64 ((shl .i64 1 a0) - 1)) true) else (none)) else (some false))
theorem pomaderef02_Round.mono_l : ∀ k, (∀ y0 y1 y2 y3, LeO (pomaderef02_Round.l0 k y0 y1 y2 y3) (pomaderef02_Round.l0 (k + 1) y0 y1 y2 y3)) ∧ (∀ y0 y1 y2 y3 y4, LeO (pomaderef02_Round.l1 k y0 y1 y2 y3 y4) (pomaderef02_Round.l1 (k + 1) y0 y1 y2 y3 y4))
  | 0 => ⟨fun _ _ _ _ r h => by simp [pomaderef02_Round.l0] at h, fun _ _ _ _ _ r h => by simp [pomaderef02_Round.l1] at h⟩
  | k + 1 => by
    obtain ⟨ih0, ih1⟩ := pomaderef02_Round.mono_l k
    refine ⟨?_, ?_⟩
    · intro y0 y1 y2 y3
      unfold pomaderef02_Round.l0
      repeat' first
      | (with_reducible exact ih0 _ _ _ _)
      | (with_reducible exact ih1 _ _ _ _ _)
      | (with_reducible exact pomaderef02_Town.mono _ _ _)
      | (with_reducible exact LeO.refl _)
      | (with_reducible exact LeO.none _)
      | (with_reducible refine LeO.ite ?_ ?_)
      | (with_reducible refine LeO.bind ?_ (fun _ => ?_))
      | exact ih0 _ _ _ _
      | exact ih1 _ _ _ _ _
      | exact pomaderef02_Town.mono _ _ _
      | exact LeO.none _
      | refine LeO.ite ?_ ?_
      | refine LeO.bind ?_ (fun _ => ?_)
    · intro y0 y1 y2 y3 y4
      unfold pomaderef02_Round.l1
      repeat' first
      | (with_reducible exact ih0 _ _ _ _)
      | (with_reducible exact ih1 _ _ _ _ _)
      | (with_reducible exact pomaderef02_Town.mono _ _ _)
      | (with_reducible exact LeO.refl _)
      | (with_reducible exact LeO.none _)
      | (with_reducible refine LeO.ite ?_ ?_)
      | (with_reducible refine LeO.bind ?_ (fun _ => ?_))
      | exact ih0 _ _ _ _
      | exact ih1 _ _ _ _ _
      | exact pomaderef02_Town.mono _ _ _
      | exact LeO.none _
      | refine LeO.ite ?_ ?_
      | refine LeO.bind ?_ (fun _ => ?_)
theorem pomaderef02_Round.mono : ∀ a0 a1 k, LeO (pomaderef02_Round.f k a0 a1) (pomaderef02_Round.f (k + 1) a0 a1) := by
  intro a0 a1 k
  obtain ⟨ih0, ih1⟩ := pomaderef02_Round.mono_l k
  unfold pomaderef02_Round.f
  repeat' first
      | (with_reducible exact ih0 _ _ _ _)
      | (with_reducible exact ih1 _ _ _ _ _)
      | (with_reducible exact pomaderef02_Town.mono _ _ _)
      | (with_reducible exact LeO.refl _)
      | (with_reducible exact LeO.none _)
      | (with_reducible refine LeO.ite ?_ ?_)
      | (with_reducible refine LeO.bind ?_ (fun _ => ?_))
      | exact ih0 _ _ _ _
      | exact ih1 _ _ _ _ _
      | exact pomaderef02_Town.mono _ _ _
      | exact LeO.none _
      | refine LeO.ite ?_ ?_
      | refine LeO.bind ?_ (fun _ => ?_)
set_option maxHeartbeats 8000000 in
set_option maxRecDepth 100000 in
theorem pomaderef02_Round.calls (k : Nat) (a0 : Int) (A1 : Option Addr) (c1 : Nat) (l1 : List (S43)) (r : Bool) (w : World) (hr1 : Kd.C k43 w A1 l1.length l1) (hc1 : l1.length ≤ c1) (h : pomaderef02_Round.f k a0 l1 = some r) :
    Calls Try.prog 22 #[.int .i64 a0, .slice A1 l1.length c1] w fun e w' => e = .returned (.bool r) ∧ Below w.heap.size w w' := by
  have HR1 := Aside0.mk hr1
  have HC1 := Aside0.mk hc1
  clear hr1 hc1
  have HB := Aside0.mk (Below.refl w.heap.size w)
  have H : ((pomaderef02_Town.f k a0 l1).bind fun bt129 => (if bt129.2 = 0 then (if 0 ≤ a0 then (pomaderef02_Round.l0 k a0 bt129.1 (wrap64 ((shl .i64 1 a0) - 1)) true) else (none)) else (some false))) = some r := h
  clear h
  replace H := Option.bind_eq_some_iff.mp H
  obtain ⟨⟨t129, t130⟩, A30, H⟩ := H
  replace H : (if t130 = 0 then (if 0 ≤ a0 then (pomaderef02_Round.l0 k a0 t129 (wrap64 ((shl .i64 1 a0) - 1)) true) else (none)) else (some false)) = some r := H
  have A3 := Aside0.mk A30
  clear A30
  by_cases c4 : t130 = 0
  · rw [if_pos c4] at H
    have c4b0 : (t130 == 0) = true := beq_iff_eq.mpr c4
    have c4b1 : (t130 != 0) = false := bne_eq_false_iff_eq.mpr c4
    clear c4
    by_cases c5 : 0 ≤ a0
    · rw [if_pos c5] at H
      have c5b0 := eq_true c5
      have c5b1 : decide (0 ≤ a0) = true := decide_eq_true c5
      clear c5
      obtain ⟨ji6, hji6⟩ : ∃ j_ : Int, (shl .i64 1 a0) = j_ := ⟨_, rfl⟩
      replace H : (pomaderef02_Round.l0 k a0 t129 (wrap64 ((ji6) - 1)) true) = some r := by first | (rw [hji6] at H; exact H) | (simp only [hji6] at H ⊢; exact H)
      (try rw [hji6] at A3)
      have hji6_ : (IntKind.i64.wrap (1 * 2 ^ min a0.toNat 64)) = ji6 := hji6
      have hji6z : a0 ≤ 64 → (IntKind.i64.wrap (1 * 2 ^ a0.toNat)) = ji6 := shl_small hji6
      have hji6u : (IntKind.i64.wrap (2 ^ min a0.toNat 64)) = ji6 := by have h_ := hji6_; rw [Int.one_mul] at h_; exact h_
      have hji6v : a0 ≤ 64 → (IntKind.i64.wrap (2 ^ a0.toNat)) = ji6 := fun hle_ => by have h_ := hji6z hle_; rw [Int.one_mul] at h_; exact h_
      have hji6y : (wrap64 (1 * 2 ^ min a0.toNat 64)) = ji6 := (i64_w _).symm.trans hji6_
      have hji6x : a0 ≤ 64 → (wrap64 (1 * 2 ^ a0.toNat)) = ji6 := fun h_ => (i64_w _).symm.trans (hji6z h_)
      have H' := Aside0.mk H
      clear H
      go_enter Try.func22, Try.ntmps22
      go_wp2_with (first | ((with_reducible refine gate_callee (f := 50) rfl ?_); refine goesL_ (some 13) rfl rfl Try.func50 (by kernel_rfl) rfl #[.int .i64 a0, .slice A1 l1.length c1] rfl (by (try simp only [List.map_toArray, List.map_cons, List.map_nil]); first | done | rfl | (simp only [List.length_drop, List.length_take]; rfl)) ?_; (with_reducible refine (pomaderef02_Town.calls k a0 _ _ l1 t129 t130 _ ?side1 ?side2 A3.out).mono ?_); (case side1 => repeat (first | exact HR1.out | (with_reducible refine Kd.C_alloc ?_ _) | (with_reducible refine Kd.C_drewN ?_ _) | (with_reducible refine Kd.C_drew ?_))); (case side2 => exact HC1.out); rintro e w7 ⟨v131, rfl, ho0, hb⟩; refine ⟨_, rfl, ?_⟩; have n0_ := Aside0.mk (Kd.R_lower ho0 (below_size (by repeat (first | (with_reducible first | exact HB.out | apply below_alloc | apply pw_below_drewN | apply below_drew1) | exact HB.out)))); have n1_ := Aside0.mk (below_step (by repeat (first | (with_reducible first | exact HB.out | apply below_alloc | apply pw_below_drewN | apply below_drew1) | exact HB.out)) hb); clear HB; have HO132 := n0_; have HB := n1_; clear n0_ n1_; (try clear hb); (try clear hb2); (try clear hk); (try clear hi); (try clear ho0)))
      go_loopg [7, 8] k (fun kq v7 v8 w' => ∃ (x7_1 : Int) (x8_1 : Bool), v7 = .int .i64 x7_1 ∧ v8 = .bool x8_1 ∧ Aside0 (pomaderef02_Round.l0 kq a0 t129 x7_1 x8_1 = some r) ∧ Aside0 (kq ≤ k) ∧ Aside0 (Kd.R (Kd.int .i64) 3 w' w.heap.size (fun _ => True) v131 t129) ∧ Aside0 (Below w.heap.size w w'))
      case atStart => exact ⟨(wrap64 ((ji6) - 1)), (true), (by first | rfl | (simp; done) | (simp only [← hji6] <;> (first | rfl | simp)) | (simp [*]; done)), (by first | rfl | (simp; done) | (simp [*]; done)), H', ⟨Nat.le_refl _⟩, ⟨by (with_reducible repeat (first | apply Kd.R_alloc | apply Kd.R_drewN | apply Kd.R_drew)); exact HO132.out⟩, ⟨by repeat (first | (with_reducible first | exact HB.out | apply below_alloc | apply pw_below_drewN | apply below_drew1) | exact HB.out)⟩⟩
      case round =>
        clear H'
        try clear c1
        try clear c2
        try clear p2
        try clear c4
        try clear c4b0
        try clear c4b1
        try clear c5
        try clear c5b0
        try clear c5b1
        try clear p6
        obtain ⟨x7_1, x8_1, rfl, rfl, HA, HK1, HO_5, HB⟩ := hrel
        cases gk with
        | zero => exact absurd HA.out (by simp [pomaderef02_Round.l0])
        | succ k1 =>
          have H := HA.out
          clear HA
          simp only [pomaderef02_Round.l0] at H
          by_cases c8 : x8_1 = true
          · subst c8
            have H1 : (pomaderef02_Round.l1 k1 a0 t129 x7_1 false 0) = some r := by rw [if_pos rfl] at H; exact H
            clear H
            have H := H1
            clear H1
            have H' := Aside0.mk H
            clear H
            go_wp2
            go_loopg [7, 8, 9] k1 (fun kq v7 v8 v9 w' => ∃ (x7_2 : Int) (x8_2 : Bool) (x9_2 : Int), v7 = .int .i64 x7_2 ∧ v8 = .bool x8_2 ∧ v9 = .int .i64 x9_2 ∧ Aside0 (pomaderef02_Round.l1 kq a0 t129 x7_2 x8_2 x9_2 = some r) ∧ Aside0 (kq ≤ k1) ∧ Aside0 (Kd.R (Kd.int .i64) 3 w' w.heap.size (fun _ => True) v131 t129) ∧ Aside0 (Below w.heap.size w w'))
            case atStart => exact ⟨(x7_1), (false), (0), (by first | rfl | (simp; done) | (simp [*]; done)), (by first | rfl | (simp; done) | (simp [*]; done)), (by first | rfl | (simp; done) | (simp [*]; done)), H', ⟨Nat.le_refl _⟩, ⟨by (with_reducible repeat (first | apply Kd.R_alloc | apply Kd.R_drewN | apply Kd.R_drew)); exact HO_5.out⟩, ⟨by repeat (first | (with_reducible first | exact HB.out | apply below_alloc | apply pw_below_drewN | apply below_drew1) | exact HB.out)⟩⟩
            case round =>
              clear H'
              try clear c1
              try clear c2
              try clear p2
              try clear c4
              try clear c4b0
              try clear c4b1
              try clear c5
              try clear c5b0
              try clear c5b1
              try clear p6
              try clear c8
              try clear p2
              try clear p6
              obtain ⟨x7_2, x8_2, x9_2, rfl, rfl, rfl, HA, HK2, HO_5, HB⟩ := hrel
              cases gk with
              | zero => exact absurd HA.out (by simp [pomaderef02_Round.l1])
              | succ k2 =>
                have H := HA.out
                clear HA
                simp only [pomaderef02_Round.l1] at H
                by_cases c9 : x9_2 < a0
                · rw [if_pos c9] at H
                  have c9b0 : decide (x9_2 < a0) = true := decide_eq_true c9
                  clear c9
                  by_cases c10 : 0 ≤ x9_2
                  · rw [if_pos c10] at H
                    have c10b0 := eq_true c10
                    have c10b1 : decide (0 ≤ x9_2) = true := decide_eq_true c10
                    clear c10
                    obtain ⟨ji11, hji11⟩ : ∃ j_ : Int, (shr .i64 x7_2 x9_2) = j_ := ⟨_, rfl⟩
                    replace H : (if (Int.tmod (ji11) 2) = 1 then (if x9_2 < (t129.length : Int) then (if (Go.bits .and .i64 (rd t129 x9_2) x7_2) = 0 then (pomaderef02_Round.l1 k2 a0 t129 (wrap64 (x7_2 - (shl .i64 1 x9_2))) true (wrap64 (x9_2 + 1))) else (pomaderef02_Round.l1 k2 a0 t129 x7_2 x8_2 (wrap64 (x9_2 + 1)))) else (none)) else (pomaderef02_Round.l1 k2 a0 t129 x7_2 x8_2 (wrap64 (x9_2 + 1)))) = some r := by first | (rw [hji11] at H; exact H) | (simp only [hji11] at H ⊢; exact H)
                    have hji11_ : (x7_2 / 2 ^ min x9_2.toNat 64) = ji11 := hji11
                    have hji11z : x9_2 ≤ 64 → (x7_2 / 2 ^ x9_2.toNat) = ji11 := shr_small hji11
                    by_cases c12 : (Int.tmod (ji11) 2) = 1
                    · rw [if_pos c12] at H
                      have c12b0 : ((Int.tmod (ji11) 2) == 1) = true := beq_iff_eq.mpr c12
                      have c12b1 : ((Int.tmod (ji11) 2) != 1) = false := bne_eq_false_iff_eq.mpr c12
                      clear c12
                      by_cases c13 : x9_2 < (t129.length : Int)
                      · rw [if_pos c13] at H
                        have c13b0 : decide (x9_2 < (t129.length : Int)) = true := decide_eq_true c13
                        clear c13
                        by_cases c14 : (Go.bits .and .i64 (rd t129 x9_2) x7_2) = 0
                        · rw [if_pos c14] at H
                          have c14b0 : ((Go.bits .and .i64 (rd t129 x9_2) x7_2) == 0) = true := beq_iff_eq.mpr c14
                          have c14b1 : ((Go.bits .and .i64 (rd t129 x9_2) x7_2) != 0) = false := bne_eq_false_iff_eq.mpr c14
                          clear c14
                          have c15b0 := eq_true (of_decide_eq_true (by first | (with_reducible assumption) | assumption) : 0 ≤ x9_2)
                          obtain ⟨ji16, hji16⟩ : ∃ j_ : Int, (shl .i64 1 x9_2) = j_ := ⟨_, rfl⟩
                          replace H : (pomaderef02_Round.l1 k2 a0 t129 (wrap64 (x7_2 - (ji16))) true (wrap64 (x9_2 + 1))) = some r := by first | (rw [hji16] at H; exact H) | (simp only [hji16] at H ⊢; exact H)
                          have hji16_ : (IntKind.i64.wrap (1 * 2 ^ min x9_2.toNat 64)) = ji16 := hji16
                          have hji16z : x9_2 ≤ 64 → (IntKind.i64.wrap (1 * 2 ^ x9_2.toNat)) = ji16 := shl_small hji16
                          have hji16u : (IntKind.i64.wrap (2 ^ min x9_2.toNat 64)) = ji16 := by have h_ := hji16_; rw [Int.one_mul] at h_; exact h_
                          have hji16v : x9_2 ≤ 64 → (IntKind.i64.wrap (2 ^ x9_2.toNat)) = ji16 := fun hle_ => by have h_ := hji16z hle_; rw [Int.one_mul] at h_; exact h_
                          have hji16y : (wrap64 (1 * 2 ^ min x9_2.toNat 64)) = ji16 := (i64_w _).symm.trans hji16_
                          have hji16x : x9_2 ≤ 64 → (wrap64 (1 * 2 ^ x9_2.toNat)) = ji16 := fun h_ => (i64_w _).symm.trans (hji16z h_)
                          have H' := Aside0.mk H
                          clear H
                          obtain ⟨Ao17, co17, eo17⟩ := Kd.R_slice HO_5.out
                          subst eo17
                          have p133 : 0 ≤ (x9_2 : Int) := of_decide_eq_true (by first | (with_reducible assumption) | assumption)
                          have q133 : x9_2 < (t129.length : Int) := of_decide_eq_true (by first | (with_reducible assumption) | assumption)
                          obtain ⟨ad133, e133, hx133_0⟩ := Kd.at_int (Kd.R_reads' HO_5.out).2.2 x9_2 p133 q133
                          cases e133
                          replace p133 := eq_true p133
                          replace q133 := eq_true q133
                          go_wp2
                          go_roundg k2
                          case measure => have := HK1.out; have := HK2.out; omega
                          case rel => exact ⟨(wrap64 (x7_2 - (ji16))), (true), (wrap64 (x9_2 + 1)), (by first | rfl | (simp; done) | (simp only [← hji16] <;> (first | rfl | simp)) | (simp [*]; done)), (by first | rfl | (simp; done) | (simp [*]; done)), (by first | rfl | (simp; done) | (simp [*]; done)), H', ⟨by have := HK1.out; have := HK2.out; omega⟩, ⟨by (with_reducible repeat (first | apply Kd.R_alloc | apply Kd.R_drewN | apply Kd.R_drew)); exact HO_5.out⟩, ⟨by repeat (first | (with_reducible first | exact HB.out | apply below_alloc | apply pw_below_drewN | apply below_drew1) | exact HB.out)⟩⟩
                        · rw [if_neg c14] at H
                          have c14b0 : ((Go.bits .and .i64 (rd t129 x9_2) x7_2) == 0) = false := beq_eq_false_iff_ne.mpr c14
                          have c14b1 : ((Go.bits .and .i64 (rd t129 x9_2) x7_2) != 0) = true := bne_iff_ne.mpr c14
                          have H' := Aside0.mk H
                          clear H
                          obtain ⟨Ao18, co18, eo18⟩ := Kd.R_slice HO_5.out
                          subst eo18
                          have p133 : 0 ≤ (x9_2 : Int) := of_decide_eq_true (by first | (with_reducible assumption) | assumption)
                          have q133 : x9_2 < (t129.length : Int) := of_decide_eq_true (by first | (with_reducible assumption) | assumption)
                          obtain ⟨ad133, e133, hx133_0⟩ := Kd.at_int (Kd.R_reads' HO_5.out).2.2 x9_2 p133 q133
                          cases e133
                          replace p133 := eq_true p133
                          replace q133 := eq_true q133
                          go_wp2
                          go_roundg k2
                          case measure => have := HK1.out; have := HK2.out; omega
                          case rel => exact ⟨(x7_2), (x8_2), (wrap64 (x9_2 + 1)), (by first | rfl | (simp; done) | (simp [*]; done)), (by first | rfl | (simp; done) | (simp [*]; done)), (by first | rfl | (simp; done) | (simp [*]; done)), H', ⟨by have := HK1.out; have := HK2.out; omega⟩, ⟨by (with_reducible repeat (first | apply Kd.R_alloc | apply Kd.R_drewN | apply Kd.R_drew)); exact HO_5.out⟩, ⟨by repeat (first | (with_reducible first | exact HB.out | apply below_alloc | apply pw_below_drewN | apply below_drew1) | exact HB.out)⟩⟩
                      · rw [if_neg c13] at H
                        exact absurd H (by simp)
                    · rw [if_neg c12] at H
                      have c12b0 : ((Int.tmod (ji11) 2) == 1) = false := beq_eq_false_iff_ne.mpr c12
                      have c12b1 : ((Int.tmod (ji11) 2) != 1) = true := bne_iff_ne.mpr c12
                      have H' := Aside0.mk H
                      clear H
                      go_wp2
                      go_roundg k2
                      case measure => have := HK1.out; have := HK2.out; omega
                      case rel => exact ⟨(x7_2), (x8_2), (wrap64 (x9_2 + 1)), (by first | rfl | (simp; done) | (simp [*]; done)), (by first | rfl | (simp; done) | (simp [*]; done)), (by first | rfl | (simp; done) | (simp [*]; done)), H', ⟨by have := HK1.out; have := HK2.out; omega⟩, ⟨by (with_reducible repeat (first | apply Kd.R_alloc | apply Kd.R_drewN | apply Kd.R_drew)); exact HO_5.out⟩, ⟨by repeat (first | (with_reducible first | exact HB.out | apply below_alloc | apply pw_below_drewN | apply below_drew1) | exact HB.out)⟩⟩
                  · rw [if_neg c10] at H
                    exact absurd H (by simp)
                · rw [if_neg c9] at H
                  have c9b0 : decide (x9_2 < a0) = false := decide_eq_false c9
                  clear c9
                  have H' := Aside0.mk H
                  clear H
                  go_wp2
                  go_roundg k2
                  case measure => have := HK1.out; have := HK2.out; omega
                  case rel => exact ⟨(x7_2), (x8_2), (by first | rfl | (simp; done) | (simp [*]; done)), (by first | rfl | (simp; done) | (simp [*]; done)), H', ⟨by have := HK1.out; have := HK2.out; omega⟩, ⟨by (with_reducible repeat (first | apply Kd.R_alloc | apply Kd.R_drewN | apply Kd.R_drew)); exact HO_5.out⟩, ⟨by repeat (first | (with_reducible first | exact HB.out | apply below_alloc | apply pw_below_drewN | apply below_drew1) | exact HB.out)⟩⟩
          · replace c8 := Bool.eq_false_iff.mpr c8
            subst c8
            have H1 : (some (x7_1 != 0)) = some r := by rw [if_neg (show ¬ (false = true) by decide)] at H; exact H
            clear H
            have H := H1
            clear H1
            obtain rfl := Option.some.inj H
            go_wp2
            go_ret
            exact ⟨by first | rfl | (simp [errW_none, errW_some] <;> rfl) | (simp only [← hji6]; first | rfl | (simp [errW_none, errW_some] <;> rfl)) | (simp [*, errW_none, errW_some] <;> rfl), by repeat (first | (with_reducible first | exact HB.out | apply below_alloc | apply pw_below_drewN | apply below_drew1) | exact HB.out)⟩
    · rw [if_neg c5] at H
      exact absurd H (by simp)
  · rw [if_neg c4] at H
    have c4b0 : (t130 == 0) = false := beq_eq_false_iff_ne.mpr c4
    have c4b1 : (t130 != 0) = true := bne_iff_ne.mpr c4
    obtain rfl := Option.some.inj H
    go_enter Try.func22, Try.ntmps22
    go_wp2_with (first | ((with_reducible refine gate_callee (f := 50) rfl ?_); refine goesL_ (some 13) rfl rfl Try.func50 (by kernel_rfl) rfl #[.int .i64 a0, .slice A1 l1.length c1] rfl (by (try simp only [List.map_toArray, List.map_cons, List.map_nil]); first | done | rfl | (simp only [List.length_drop, List.length_take]; rfl)) ?_; (with_reducible refine (pomaderef02_Town.calls k a0 _ _ l1 t129 t130 _ ?side1 ?side2 A3.out).mono ?_); (case side1 => repeat (first | exact HR1.out | (with_reducible refine Kd.C_alloc ?_ _) | (with_reducible refine Kd.C_drewN ?_ _) | (with_reducible refine Kd.C_drew ?_))); (case side2 => exact HC1.out); rintro e w19 ⟨v131, rfl, ho0, hb⟩; refine ⟨_, rfl, ?_⟩; have n0_ := Aside0.mk (Kd.R_lower ho0 (below_size (by repeat (first | (with_reducible first | exact HB.out | apply below_alloc | apply pw_below_drewN | apply below_drew1) | exact HB.out)))); have n1_ := Aside0.mk (below_step (by repeat (first | (with_reducible first | exact HB.out | apply below_alloc | apply pw_below_drewN | apply below_drew1) | exact HB.out)) hb); clear HB; have HO132 := n0_; have HB := n1_; clear n0_ n1_; (try clear hb); (try clear hb2); (try clear hk); (try clear hi); (try clear ho0)))
    go_ret
    exact ⟨by first | rfl | (simp [errW_none, errW_some] <;> rfl) | (simp [*, errW_none, errW_some] <;> rfl), by repeat (first | (with_reducible first | exact HB.out | apply below_alloc | apply pw_below_drewN | apply below_drew1) | exact HB.out)⟩
mutual
def pomaderef02_mex.l0 : Nat → List Int → List Int → Int → Int → Bool → Option (Int)
  | 0, _, _, _, _, _ => none
  | k + 1, x0, x1, x2, x7, x8 => if x8 = true then (pomaderef02_mex.l1 k x0 x1 x2 x7 false 0) else (some x7)
def pomaderef02_mex.l1 : Nat → List Int → List Int → Int → Int → Bool → Int → Option (Int)
  | 0, _, _, _, _, _, _ => none
  | k + 1, x0, x1, x2, x7, x8, x9 => if x9 < (x1.length : Int) then (if 0 ≤ x2 then (if x2 < (x0.length : Int) then (if 0 ≤ x9 then (if (Int.tmod (shr .i64 (rd x0 x2) x9) 2) = 1 then (if (rd x1 x9) = x7 then (pomaderef02_mex.l1 k x0 x1 x2 (wrap64 (x7 + 1)) true (wrap64 (x9 + 1))) else (pomaderef02_mex.l1 k x0 x1 x2 x7 x8 (wrap64 (x9 + 1)))) else (pomaderef02_mex.l1 k x0 x1 x2 x7 x8 (wrap64 (x9 + 1)))) else (none)) else (none)) else (none)) else (pomaderef02_mex.l0 k x0 x1 x2 x7 x8)
end
def pomaderef02_mex.f (k : Nat) (l0 : List Int) (l1 : List Int) (a2 : Int) : Option (Int) := pomaderef02_mex.l0 k l0 l1 a2 0 true
theorem pomaderef02_mex.mono_l : ∀ k, (∀ y0 y1 y2 y3 y4, LeO (pomaderef02_mex.l0 k y0 y1 y2 y3 y4) (pomaderef02_mex.l0 (k + 1) y0 y1 y2 y3 y4)) ∧ (∀ y0 y1 y2 y3 y4 y5, LeO (pomaderef02_mex.l1 k y0 y1 y2 y3 y4 y5) (pomaderef02_mex.l1 (k + 1) y0 y1 y2 y3 y4 y5))
  | 0 => ⟨fun _ _ _ _ _ r h => by simp [pomaderef02_mex.l0] at h, fun _ _ _ _ _ _ r h => by simp [pomaderef02_mex.l1] at h⟩
  | k + 1 => by
    obtain ⟨ih0, ih1⟩ := pomaderef02_mex.mono_l k
    refine ⟨?_, ?_⟩
    · intro y0 y1 y2 y3 y4
      unfold pomaderef02_mex.l0
      repeat' first
      | (with_reducible exact ih0 _ _ _ _ _)
      | (with_reducible exact ih1 _ _ _ _ _ _)
      | (with_reducible exact LeO.refl _)
      | (with_reducible exact LeO.none _)
      | (with_reducible refine LeO.ite ?_ ?_)
      | (with_reducible refine LeO.bind ?_ (fun _ => ?_))
      | exact ih0 _ _ _ _ _
      | exact ih1 _ _ _ _ _ _
      | exact LeO.none _
      | refine LeO.ite ?_ ?_
      | refine LeO.bind ?_ (fun _ => ?_)
    · intro y0 y1 y2 y3 y4 y5
      unfold pomaderef02_mex.l1
      repeat' first
      | (with_reducible exact ih0 _ _ _ _ _)
      | (with_reducible exact ih1 _ _ _ _ _ _)
      | (with_reducible exact LeO.refl _)
      | (with_reducible exact LeO.none _)
      | (with_reducible refine LeO.ite ?_ ?_)
      | (with_reducible refine LeO.bind ?_ (fun _ => ?_))
      | exact ih0 _ _ _ _ _
      | exact ih1 _ _ _ _ _ _
      | exact LeO.none _
      | refine LeO.ite ?_ ?_
      | refine LeO.bind ?_ (fun _ => ?_)
theorem pomaderef02_mex.mono : ∀ a0 a1 a2 k, LeO (pomaderef02_mex.f k a0 a1 a2) (pomaderef02_mex.f (k + 1) a0 a1 a2) := by
  intro a0 a1 a2 k
  obtain ⟨ih0, ih1⟩ := pomaderef02_mex.mono_l k
  unfold pomaderef02_mex.f
  repeat' first
      | (with_reducible exact ih0 _ _ _ _ _)
      | (with_reducible exact ih1 _ _ _ _ _ _)
      | (with_reducible exact LeO.refl _)
      | (with_reducible exact LeO.none _)
      | (with_reducible refine LeO.ite ?_ ?_)
      | (with_reducible refine LeO.bind ?_ (fun _ => ?_))
      | exact ih0 _ _ _ _ _
      | exact ih1 _ _ _ _ _ _
      | exact LeO.none _
      | refine LeO.ite ?_ ?_
      | refine LeO.bind ?_ (fun _ => ?_)
set_option maxHeartbeats 8000000 in
set_option maxRecDepth 100000 in
theorem pomaderef02_mex.calls (k : Nat) (A0 : Option Addr) (c0 : Nat) (l0 : List Int) (A1 : Option Addr) (c1 : Nat) (l1 : List Int) (a2 : Int) (r : Int) (w : World) (hr0 : Kd.C (Kd.int .i64) w A0 l0.length l0) (hc0 : l0.length ≤ c0) (hr1 : Kd.C (Kd.int .i64) w A1 l1.length l1) (hc1 : l1.length ≤ c1) (h : pomaderef02_mex.f k l0 l1 a2 = some r) :
    Calls Try.prog 58 #[.slice A0 l0.length c0, .slice A1 l1.length c1, .int .i64 a2] w fun e w' => e = .returned (.int .i64 r) ∧ Drawn0 w w' := by
  have HR0 := Aside0.mk hr0
  have HC0 := Aside0.mk hc0
  clear hr0 hc0
  have HR1 := Aside0.mk hr1
  have HC1 := Aside0.mk hc1
  clear hr1 hc1
  have H : (pomaderef02_mex.l0 k l0 l1 a2 0 true) = some r := h
  clear h
  have H' := Aside0.mk H
  clear H
  go_enter Try.func58, Try.ntmps58
  go_wp2
  go_loopg [7, 8] k (fun kq v7 v8 w' => ∃ (x7_1 : Int) (x8_1 : Bool), v7 = .int .i64 x7_1 ∧ v8 = .bool x8_1 ∧ Aside0 (pomaderef02_mex.l0 kq l0 l1 a2 x7_1 x8_1 = some r) ∧ Aside0 (kq ≤ k) ∧ Drawn0 w w')
  case atStart => exact ⟨(0), (true), (by first | rfl | (simp; done) | (simp [*]; done)), (by first | rfl | (simp; done) | (simp [*]; done)), H', ⟨Nat.le_refl _⟩, by repeat (first | exact Drawn0.refl _ | apply Drawn0.step)⟩
  case round =>
    clear H'
    try clear c1
    try clear p2
    obtain ⟨x7_1, x8_1, rfl, rfl, HA, HK1, ⟨m1, rfl⟩⟩ := hrel
    cases gk with
    | zero => exact absurd HA.out (by simp [pomaderef02_mex.l0])
    | succ k1 =>
      have H := HA.out
      clear HA
      simp only [pomaderef02_mex.l0] at H
      by_cases c4 : x8_1 = true
      · subst c4
        have H1 : (pomaderef02_mex.l1 k1 l0 l1 a2 x7_1 false 0) = some r := by rw [if_pos rfl] at H; exact H
        clear H
        have H := H1
        clear H1
        have H' := Aside0.mk H
        clear H
        go_wp2
        go_loopg [7, 8, 9] k1 (fun kq v7 v8 v9 w' => ∃ (x7_2 : Int) (x8_2 : Bool) (x9_2 : Int), v7 = .int .i64 x7_2 ∧ v8 = .bool x8_2 ∧ v9 = .int .i64 x9_2 ∧ Aside0 (pomaderef02_mex.l1 kq l0 l1 a2 x7_2 x8_2 x9_2 = some r) ∧ Aside0 (kq ≤ k1) ∧ Drawn0 w w')
        case atStart => exact ⟨(x7_1), (false), (0), (by first | rfl | (simp; done) | (simp [*]; done)), (by first | rfl | (simp; done) | (simp [*]; done)), (by first | rfl | (simp; done) | (simp [*]; done)), H', ⟨Nat.le_refl _⟩, by repeat (first | exact Drawn0.refl _ | apply Drawn0.step)⟩
        case round =>
          clear H'
          try clear c1
          try clear p2
          try clear c4
          try clear p2
          obtain ⟨x7_2, x8_2, x9_2, rfl, rfl, rfl, HA, HK2, ⟨m2, rfl⟩⟩ := hrel
          cases gk with
          | zero => exact absurd HA.out (by simp [pomaderef02_mex.l1])
          | succ k2 =>
            have H := HA.out
            clear HA
            simp only [pomaderef02_mex.l1] at H
            by_cases c5 : x9_2 < (l1.length : Int)
            · rw [if_pos c5] at H
              have c5b0 : decide (x9_2 < (l1.length : Int)) = true := decide_eq_true c5
              clear c5
              by_cases c6 : 0 ≤ a2
              · rw [if_pos c6] at H
                have c6b0 : decide (0 ≤ a2) = true := decide_eq_true c6
                clear c6
                by_cases c7 : a2 < (l0.length : Int)
                · rw [if_pos c7] at H
                  have c7b0 : decide (a2 < (l0.length : Int)) = true := decide_eq_true c7
                  clear c7
                  by_cases c8 : 0 ≤ x9_2
                  · rw [if_pos c8] at H
                    have c8b0 := eq_true c8
                    have c8b1 : decide (0 ≤ x9_2) = true := decide_eq_true c8
                    clear c8
                    obtain ⟨ji9, hji9⟩ : ∃ j_ : Int, (shr .i64 (rd l0 a2) x9_2) = j_ := ⟨_, rfl⟩
                    replace H : (if (Int.tmod (ji9) 2) = 1 then (if (rd l1 x9_2) = x7_2 then (pomaderef02_mex.l1 k2 l0 l1 a2 (wrap64 (x7_2 + 1)) true (wrap64 (x9_2 + 1))) else (pomaderef02_mex.l1 k2 l0 l1 a2 x7_2 x8_2 (wrap64 (x9_2 + 1)))) else (pomaderef02_mex.l1 k2 l0 l1 a2 x7_2 x8_2 (wrap64 (x9_2 + 1)))) = some r := by first | (rw [hji9] at H; exact H) | (simp only [hji9] at H ⊢; exact H)
                    have hji9_ : ((rd l0 a2) / 2 ^ min x9_2.toNat 64) = ji9 := hji9
                    have hji9z : x9_2 ≤ 64 → ((rd l0 a2) / 2 ^ x9_2.toNat) = ji9 := shr_small hji9
                    by_cases c10 : (Int.tmod (ji9) 2) = 1
                    · rw [if_pos c10] at H
                      have c10b0 : ((Int.tmod (ji9) 2) == 1) = true := beq_iff_eq.mpr c10
                      have c10b1 : ((Int.tmod (ji9) 2) != 1) = false := bne_eq_false_iff_eq.mpr c10
                      clear c10
                      by_cases c11 : (rd l1 x9_2) = x7_2
                      · rw [if_pos c11] at H
                        have c11b0 : ((rd l1 x9_2) == x7_2) = true := beq_iff_eq.mpr c11
                        have c11b1 : ((rd l1 x9_2) != x7_2) = false := bne_eq_false_iff_eq.mpr c11
                        clear c11
                        have H' := Aside0.mk H
                        clear H
                        have p134 : 0 ≤ (a2 : Int) := of_decide_eq_true (by first | (with_reducible assumption) | assumption)
                        have q134 : a2 < (l0.length : Int) := of_decide_eq_true (by first | (with_reducible assumption) | assumption)
                        obtain ⟨ad134, e134, hx134_0⟩ := Kd.at_int HR0.out a2 p134 q134
                        cases e134
                        replace p134 := eq_true p134
                        replace q134 := eq_true q134
                        have p135 : 0 ≤ (x9_2 : Int) := of_decide_eq_true (by first | (with_reducible assumption) | assumption)
                        have q135 : x9_2 < (l1.length : Int) := of_decide_eq_true (by first | (with_reducible assumption) | assumption)
                        obtain ⟨ad135, e135, hx135_0⟩ := Kd.at_int HR1.out x9_2 p135 q135
                        cases e135
                        replace p135 := eq_true p135
                        replace q135 := eq_true q135
                        go_wp2
                        go_roundg k2
                        case measure => have := HK1.out; have := HK2.out; omega
                        case rel => exact ⟨(wrap64 (x7_2 + 1)), (true), (wrap64 (x9_2 + 1)), (by first | rfl | (simp; done) | (simp [*]; done)), (by first | rfl | (simp; done) | (simp [*]; done)), (by first | rfl | (simp; done) | (simp [*]; done)), H', ⟨by have := HK1.out; have := HK2.out; omega⟩, by repeat (first | exact Drawn0.refl _ | apply Drawn0.step)⟩
                      · rw [if_neg c11] at H
                        have c11b0 : ((rd l1 x9_2) == x7_2) = false := beq_eq_false_iff_ne.mpr c11
                        have c11b1 : ((rd l1 x9_2) != x7_2) = true := bne_iff_ne.mpr c11
                        have H' := Aside0.mk H
                        clear H
                        have p134 : 0 ≤ (a2 : Int) := of_decide_eq_true (by first | (with_reducible assumption) | assumption)
                        have q134 : a2 < (l0.length : Int) := of_decide_eq_true (by first | (with_reducible assumption) | assumption)
                        obtain ⟨ad134, e134, hx134_0⟩ := Kd.at_int HR0.out a2 p134 q134
                        cases e134
                        replace p134 := eq_true p134
                        replace q134 := eq_true q134
                        have p135 : 0 ≤ (x9_2 : Int) := of_decide_eq_true (by first | (with_reducible assumption) | assumption)
                        have q135 : x9_2 < (l1.length : Int) := of_decide_eq_true (by first | (with_reducible assumption) | assumption)
                        obtain ⟨ad135, e135, hx135_0⟩ := Kd.at_int HR1.out x9_2 p135 q135
                        cases e135
                        replace p135 := eq_true p135
                        replace q135 := eq_true q135
                        go_wp2
                        go_roundg k2
                        case measure => have := HK1.out; have := HK2.out; omega
                        case rel => exact ⟨(x7_2), (x8_2), (wrap64 (x9_2 + 1)), (by first | rfl | (simp; done) | (simp [*]; done)), (by first | rfl | (simp; done) | (simp [*]; done)), (by first | rfl | (simp; done) | (simp [*]; done)), H', ⟨by have := HK1.out; have := HK2.out; omega⟩, by repeat (first | exact Drawn0.refl _ | apply Drawn0.step)⟩
                    · rw [if_neg c10] at H
                      have c10b0 : ((Int.tmod (ji9) 2) == 1) = false := beq_eq_false_iff_ne.mpr c10
                      have c10b1 : ((Int.tmod (ji9) 2) != 1) = true := bne_iff_ne.mpr c10
                      have H' := Aside0.mk H
                      clear H
                      have p134 : 0 ≤ (a2 : Int) := of_decide_eq_true (by first | (with_reducible assumption) | assumption)
                      have q134 : a2 < (l0.length : Int) := of_decide_eq_true (by first | (with_reducible assumption) | assumption)
                      obtain ⟨ad134, e134, hx134_0⟩ := Kd.at_int HR0.out a2 p134 q134
                      cases e134
                      replace p134 := eq_true p134
                      replace q134 := eq_true q134
                      go_wp2
                      go_roundg k2
                      case measure => have := HK1.out; have := HK2.out; omega
                      case rel => exact ⟨(x7_2), (x8_2), (wrap64 (x9_2 + 1)), (by first | rfl | (simp; done) | (simp [*]; done)), (by first | rfl | (simp; done) | (simp [*]; done)), (by first | rfl | (simp; done) | (simp [*]; done)), H', ⟨by have := HK1.out; have := HK2.out; omega⟩, by repeat (first | exact Drawn0.refl _ | apply Drawn0.step)⟩
                  · rw [if_neg c8] at H
                    exact absurd H (by simp)
                · rw [if_neg c7] at H
                  exact absurd H (by simp)
              · rw [if_neg c6] at H
                exact absurd H (by simp)
            · rw [if_neg c5] at H
              have c5b0 : decide (x9_2 < (l1.length : Int)) = false := decide_eq_false c5
              clear c5
              have H' := Aside0.mk H
              clear H
              go_wp2
              go_roundg k2
              case measure => have := HK1.out; have := HK2.out; omega
              case rel => exact ⟨(x7_2), (x8_2), (by first | rfl | (simp; done) | (simp [*]; done)), (by first | rfl | (simp; done) | (simp [*]; done)), H', ⟨by have := HK1.out; have := HK2.out; omega⟩, by repeat (first | exact Drawn0.refl _ | apply Drawn0.step)⟩
      · replace c4 := Bool.eq_false_iff.mpr c4
        subst c4
        have H1 : (some x7_1) = some r := by rw [if_neg (show ¬ (false = true) by decide)] at H; exact H
        clear H
        have H := H1
        clear H1
        obtain rfl := Option.some.inj H
        go_wp2
        go_ret
        exact ⟨by first | rfl | (simp; done) | (simp [*]; done), by repeat (first | exact Drawn0.refl _ | apply Drawn0.step)⟩
mutual
def pomaderef02_IsRanks.j0 : Nat → Int → List Int → List Int → Bool → Option (Bool)
  | 0, _, _, _, _ => none
  | k + 1, x0, x2, x7, x23 => if x23 = true then (some false) else (pomaderef02_IsRanks.l0 k x0 x2 x7 0)
def pomaderef02_IsRanks.l0 : Nat → Int → List Int → List Int → Int → Option (Bool)
  | 0, _, _, _, _ => none
  | k + 1, x0, x2, x7, x9 => if x9 < x0 then (if 0 ≤ x9 then (if x9 < (x2.length : Int) then (if (rd x2 x9) < 0 then (some false) else (if (rd x2 x9) > x0 then (some false) else ((pomaderef02_mex.f k x7 x2 x9).bind fun t142 => (if t142 = (rd x2 x9) then (pomaderef02_IsRanks.l0 k x0 x2 x7 (wrap64 (x9 + 1))) else (some false))))) else (none)) else (none)) else (some true)
end
def pomaderef02_IsRanks.f (k : Nat) (a0 : Int) (l1 : List (S43)) (l2 : List Int) : Option (Bool) := (pomaderef02_Town.f k a0 l1).bind fun bt136 => (if bt136.2 = 0 then (pomaderef02_IsRanks.j0 k a0 l2 bt136.1 ((l2.length : Int) != a0)) else (pomaderef02_IsRanks.j0 k a0 l2 bt136.1 true))
theorem pomaderef02_IsRanks.mono_l : ∀ k, (∀ y0 y1 y2 y3, LeO (pomaderef02_IsRanks.j0 k y0 y1 y2 y3) (pomaderef02_IsRanks.j0 (k + 1) y0 y1 y2 y3)) ∧ (∀ y0 y1 y2 y3, LeO (pomaderef02_IsRanks.l0 k y0 y1 y2 y3) (pomaderef02_IsRanks.l0 (k + 1) y0 y1 y2 y3))
  | 0 => ⟨fun _ _ _ _ r h => by simp [pomaderef02_IsRanks.j0] at h, fun _ _ _ _ r h => by simp [pomaderef02_IsRanks.l0] at h⟩
  | k + 1 => by
    obtain ⟨ih0, ih1⟩ := pomaderef02_IsRanks.mono_l k
    refine ⟨?_, ?_⟩
    · intro y0 y1 y2 y3
      unfold pomaderef02_IsRanks.j0
      repeat' first
      | (with_reducible exact ih0 _ _ _ _)
      | (with_reducible exact ih1 _ _ _ _)
      | (with_reducible exact pomaderef02_Town.mono _ _ _)
      | (with_reducible exact pomaderef02_mex.mono _ _ _ _)
      | (with_reducible exact LeO.refl _)
      | (with_reducible exact LeO.none _)
      | (with_reducible refine LeO.ite ?_ ?_)
      | (with_reducible refine LeO.bind ?_ (fun _ => ?_))
      | exact ih0 _ _ _ _
      | exact ih1 _ _ _ _
      | exact pomaderef02_Town.mono _ _ _
      | exact pomaderef02_mex.mono _ _ _ _
      | exact LeO.none _
      | refine LeO.ite ?_ ?_
      | refine LeO.bind ?_ (fun _ => ?_)
    · intro y0 y1 y2 y3
      unfold pomaderef02_IsRanks.l0
      repeat' first
      | (with_reducible exact ih0 _ _ _ _)
      | (with_reducible exact ih1 _ _ _ _)
      | (with_reducible exact pomaderef02_Town.mono _ _ _)
      | (with_reducible exact pomaderef02_mex.mono _ _ _ _)
      | (with_reducible exact LeO.refl _)
      | (with_reducible exact LeO.none _)
      | (with_reducible refine LeO.ite ?_ ?_)
      | (with_reducible refine LeO.bind ?_ (fun _ => ?_))
      | exact ih0 _ _ _ _
      | exact ih1 _ _ _ _
      | exact pomaderef02_Town.mono _ _ _
      | exact pomaderef02_mex.mono _ _ _ _
      | exact LeO.none _
      | refine LeO.ite ?_ ?_
      | refine LeO.bind ?_ (fun _ => ?_)
theorem pomaderef02_IsRanks.mono : ∀ a0 a1 a2 k, LeO (pomaderef02_IsRanks.f k a0 a1 a2) (pomaderef02_IsRanks.f (k + 1) a0 a1 a2) := by
  intro a0 a1 a2 k
  obtain ⟨ih0, ih1⟩ := pomaderef02_IsRanks.mono_l k
  unfold pomaderef02_IsRanks.f
  repeat' first
      | (with_reducible exact ih0 _ _ _ _)
      | (with_reducible exact ih1 _ _ _ _)
      | (with_reducible exact pomaderef02_Town.mono _ _ _)
      | (with_reducible exact pomaderef02_mex.mono _ _ _ _)
      | (with_reducible exact LeO.refl _)
      | (with_reducible exact LeO.none _)
      | (with_reducible refine LeO.ite ?_ ?_)
      | (with_reducible refine LeO.bind ?_ (fun _ => ?_))
      | exact ih0 _ _ _ _
      | exact ih1 _ _ _ _
      | exact pomaderef02_Town.mono _ _ _
      | exact pomaderef02_mex.mono _ _ _ _
      | exact LeO.none _
      | refine LeO.ite ?_ ?_
      | refine LeO.bind ?_ (fun _ => ?_)
set_option maxHeartbeats 8000000 in
set_option maxRecDepth 100000 in
theorem pomaderef02_IsRanks.calls (k : Nat) (a0 : Int) (A1 : Option Addr) (c1 : Nat) (l1 : List (S43)) (A2 : Option Addr) (c2 : Nat) (l2 : List Int) (r : Bool) (w : World) (hr1 : Kd.C k43 w A1 l1.length l1) (hc1 : l1.length ≤ c1) (hr2 : Kd.C (Kd.int .i64) w A2 l2.length l2) (hc2 : l2.length ≤ c2) (h : pomaderef02_IsRanks.f k a0 l1 l2 = some r) :
    Calls Try.prog 25 #[.int .i64 a0, .slice A1 l1.length c1, .slice A2 l2.length c2] w fun e w' => e = .returned (.bool r) ∧ Below w.heap.size w w' := by
  have HR1 := Aside0.mk hr1
  have HC1 := Aside0.mk hc1
  clear hr1 hc1
  have HR2 := Aside0.mk hr2
  have HC2 := Aside0.mk hc2
  clear hr2 hc2
  have HB := Aside0.mk (Below.refl w.heap.size w)
  have H : ((pomaderef02_Town.f k a0 l1).bind fun bt136 => (if bt136.2 = 0 then (pomaderef02_IsRanks.j0 k a0 l2 bt136.1 ((l2.length : Int) != a0)) else (pomaderef02_IsRanks.j0 k a0 l2 bt136.1 true))) = some r := h
  clear h
  replace H := Option.bind_eq_some_iff.mp H
  obtain ⟨⟨t136, t137⟩, A40, H⟩ := H
  replace H : (if t137 = 0 then (pomaderef02_IsRanks.j0 k a0 l2 t136 ((l2.length : Int) != a0)) else (pomaderef02_IsRanks.j0 k a0 l2 t136 true)) = some r := H
  have A4 := Aside0.mk A40
  clear A40
  have HC5 := Aside0.mk H
  clear H
  go_enter Try.func25, Try.ntmps25
  go_upto_region 2 with (first | (go_at_call 50; (with_reducible refine (pomaderef02_Town.calls k a0 _ _ l1 t136 t137 _ ?side1 ?side2 A4.out).mono ?_); (case side1 => repeat (first | exact HR1.out | (with_reducible refine Kd.C_alloc ?_ _) | (with_reducible refine Kd.C_drewN ?_ _) | (with_reducible refine Kd.C_drew ?_))); (case side2 => exact HC1.out); rintro e w6 ⟨v138, rfl, ho0, hb⟩; have n0_ := Aside0.mk (Kd.R_lower ho0 (below_size (by repeat (first | (with_reducible first | exact HB.out | apply below_alloc | apply pw_below_drewN | apply below_drew1) | exact HB.out)))); have n1_ := Aside0.mk (below_step (by repeat (first | (with_reducible first | exact HB.out | apply below_alloc | apply pw_below_drewN | apply below_drew1) | exact HB.out)) hb); clear HB; have HO139 := n0_; have HB := n1_; clear n0_ n1_; (try clear hb); (try clear hb2); (try clear hk); (try clear hi); (try clear ho0)))
  repeat (go_quiet (first | (go_at_call 50; (with_reducible refine (pomaderef02_Town.calls k a0 _ _ l1 t136 t137 _ ?side1 ?side2 A4.out).mono ?_); (case side1 => repeat (first | exact HR1.out | (with_reducible refine Kd.C_alloc ?_ _) | (with_reducible refine Kd.C_drewN ?_ _) | (with_reducible refine Kd.C_drew ?_))); (case side2 => exact HC1.out); rintro e w6 ⟨v138, rfl, ho0, hb⟩; have n0_ := Aside0.mk (Kd.R_lower ho0 (below_size (by repeat (first | (with_reducible first | exact HB.out | apply below_alloc | apply pw_below_drewN | apply below_drew1) | exact HB.out)))); have n1_ := Aside0.mk (below_step (by repeat (first | (with_reducible first | exact HB.out | apply below_alloc | apply pw_below_drewN | apply below_drew1) | exact HB.out)) hb); clear HB; have HO139 := n0_; have HB := n1_; clear n0_ n1_; (try clear hb); (try clear hb2); (try clear hk); (try clear hi); (try clear ho0))); go_upto_region 2 with (first | (go_at_call 50; (with_reducible refine (pomaderef02_Town.calls k a0 _ _ l1 t136 t137 _ ?side1 ?side2 A4.out).mono ?_); (case side1 => repeat (first | exact HR1.out | (with_reducible refine Kd.C_alloc ?_ _) | (with_reducible refine Kd.C_drewN ?_ _) | (with_reducible refine Kd.C_drew ?_))); (case side2 => exact HC1.out); rintro e w6 ⟨v138, rfl, ho0, hb⟩; have n0_ := Aside0.mk (Kd.R_lower ho0 (below_size (by repeat (first | (with_reducible first | exact HB.out | apply below_alloc | apply pw_below_drewN | apply below_drew1) | exact HB.out)))); have n1_ := Aside0.mk (below_step (by repeat (first | (with_reducible first | exact HB.out | apply below_alloc | apply pw_below_drewN | apply below_drew1) | exact HB.out)) hb); clear HB; have HO139 := n0_; have HB := n1_; clear n0_ n1_; (try clear hb); (try clear hb2); (try clear hk); (try clear hi); (try clear ho0))))
  (try simp only [Act.put, List.setIfInBounds_toArray, List.set_cons_zero, List.set_cons_succ])
  go_cut [23] (fun v23 wc => ∃ (kq : Nat) (x23_4 : Bool), v23 = .bool x23_4 ∧ Aside0 (pomaderef02_IsRanks.j0 kq a0 l2 t136 x23_4 = some r) ∧ Aside0 (kq ≤ k) ∧ Aside0 (Kd.R (Kd.int .i64) 3 wc w.heap.size (fun _ => True) v138 t136) ∧ Aside0 (Below w.heap.size w wc))
  case first =>
    have H := HC5.out
    clear HC5
    by_cases c7 : t137 = 0
    · rw [if_pos c7] at H
      have c7b0 : (t137 == 0) = true := beq_iff_eq.mpr c7
      have c7b1 : (t137 != 0) = false := bne_eq_false_iff_eq.mpr c7
      clear c7
      (first | rw [c7b0] | (simp only [i64_w, i32_w]; rw [c7b0]) | skip)
      have H' := Aside0.mk H
      clear H
      go_wp2
      repeat (go_quiet (fail); try go_wp2)
      go_meet
      case rel => exact ⟨_, (((l2.length : Int) != a0)), (by first | rfl | (simp; done) | (simp [*]; done)), H', ⟨by first | omega | exact Nat.le_refl _⟩, ⟨by (with_reducible repeat (first | apply Kd.R_alloc | apply Kd.R_drewN | apply Kd.R_drew)); exact HO139.out⟩, ⟨by repeat (first | (with_reducible first | exact HB.out | apply below_alloc | apply pw_below_drewN | apply below_drew1) | exact HB.out)⟩⟩
    · rw [if_neg c7] at H
      have c7b0 : (t137 == 0) = false := beq_eq_false_iff_ne.mpr c7
      have c7b1 : (t137 != 0) = true := bne_iff_ne.mpr c7
      (first | rw [c7b0] | (simp only [i64_w, i32_w]; rw [c7b0]) | skip)
      have H' := Aside0.mk H
      clear H
      go_wp2
      repeat (go_quiet (fail); try go_wp2)
      go_meet
      case rel => exact ⟨_, (true), (by first | rfl | (simp; done) | (simp [*]; done)), H', ⟨by first | omega | exact Nat.le_refl _⟩, ⟨by (with_reducible repeat (first | apply Kd.R_alloc | apply Kd.R_drewN | apply Kd.R_drew)); exact HO139.out⟩, ⟨by repeat (first | (with_reducible first | exact HB.out | apply below_alloc | apply pw_below_drewN | apply below_drew1) | exact HB.out)⟩⟩
  case rest =>
    clear HC5
    try clear c1
    try clear c2
    try clear p2
    try clear c7
    try clear c7b0
    try clear c7b1
    obtain ⟨kq, x23_4, rfl, HA, HJ4, HO_7, HB⟩ := hcut
    cases kq with
    | zero => exact absurd HA.out (by simp [pomaderef02_IsRanks.j0])
    | succ kj4 =>
      have H := HA.out
      clear HA
      simp only [pomaderef02_IsRanks.j0] at H
      by_cases c8 : x23_4 = true
      · subst c8
        have H1 : (some false) = some r := by rw [if_pos rfl] at H; exact H
        clear H
        have H := H1
        clear H1
        obtain rfl := Option.some.inj H
        go_wp2
        repeat (go_quiet (fail); try go_wp2)
        go_ret
        exact ⟨by first | rfl | (simp [errW_none, errW_some] <;> rfl) | (simp [*, errW_none, errW_some] <;> rfl), by repeat (first | (with_reducible first | exact HB.out | apply below_alloc | apply pw_below_drewN | apply below_drew1) | exact HB.out)⟩
      · replace c8 := Bool.eq_false_iff.mpr c8
        subst c8
        have H1 : (pomaderef02_IsRanks.l0 kj4 a0 l2 t136 0) = some r := by rw [if_neg (show ¬ (false = true) by decide)] at H; exact H
        clear H
        have H := H1
        clear H1
        have H' := Aside0.mk H
        clear H
        go_wp2
        repeat (go_quiet (fail); try go_wp2)
        go_loopg [9] kj4 (fun kq v9 w' => ∃ (x9_2 : Int), v9 = .int .i64 x9_2 ∧ Aside0 (pomaderef02_IsRanks.l0 kq a0 l2 t136 x9_2 = some r) ∧ Aside0 (kq ≤ kj4) ∧ Aside0 (Kd.R (Kd.int .i64) 3 w' w.heap.size (fun _ => True) v138 t136) ∧ Aside0 (Below w.heap.size w w'))
        case atStart => exact ⟨(0), (by first | rfl | (simp; done) | (simp [*]; done)), H', ⟨Nat.le_refl _⟩, ⟨by (with_reducible repeat (first | apply Kd.R_alloc | apply Kd.R_drewN | apply Kd.R_drew)); exact HO_7.out⟩, ⟨by repeat (first | (with_reducible first | exact HB.out | apply below_alloc | apply pw_below_drewN | apply below_drew1) | exact HB.out)⟩⟩
        case round =>
          clear H'
          try clear c1
          try clear c2
          try clear p2
          try clear c7
          try clear c7b0
          try clear c7b1
          try clear c8
          try clear p2
          obtain ⟨x9_2, rfl, HA, HK2, HO_7, HB⟩ := hrel
          cases gk with
          | zero => exact absurd HA.out (by simp [pomaderef02_IsRanks.l0])
          | succ k2 =>
            have H := HA.out
            clear HA
            simp only [pomaderef02_IsRanks.l0] at H
            by_cases c9 : x9_2 < a0
            · rw [if_pos c9] at H
              have c9b0 : decide (x9_2 < a0) = true := decide_eq_true c9
              clear c9
              by_cases c10 : 0 ≤ x9_2
              · rw [if_pos c10] at H
                have c10b0 : decide (0 ≤ x9_2) = true := decide_eq_true c10
                clear c10
                by_cases c11 : x9_2 < (l2.length : Int)
                · rw [if_pos c11] at H
                  have c11b0 : decide (x9_2 < (l2.length : Int)) = true := decide_eq_true c11
                  clear c11
                  by_cases c12 : (rd l2 x9_2) < 0
                  · rw [if_pos c12] at H
                    have c12b0 : decide ((rd l2 x9_2) < 0) = true := decide_eq_true c12
                    clear c12
                    obtain rfl := Option.some.inj H
                    have p140 : 0 ≤ (x9_2 : Int) := of_decide_eq_true (by first | (with_reducible assumption) | assumption)
                    have q140 : x9_2 < (l2.length : Int) := of_decide_eq_true (by first | (with_reducible assumption) | assumption)
                    obtain ⟨ad140, e140, hx140_0⟩ := Kd.at_int HR2.out x9_2 p140 q140
                    cases e140
                    replace hx140_0 := (HB.out.cell (World.block_lt_of_cell? w _ hx140_0)).trans hx140_0
                    replace p140 := eq_true p140
                    replace q140 := eq_true q140
                    go_wp2
                    repeat (go_quiet (fail); try go_wp2)
                    go_ret
                    exact ⟨by first | rfl | (simp [errW_none, errW_some] <;> rfl) | (simp [*, errW_none, errW_some] <;> rfl), by repeat (first | (with_reducible first | exact HB.out | apply below_alloc | apply pw_below_drewN | apply below_drew1) | exact HB.out)⟩
                  · rw [if_neg c12] at H
                    have c12b0 : decide ((rd l2 x9_2) < 0) = false := decide_eq_false c12
                    clear c12
                    by_cases c13 : (rd l2 x9_2) > a0
                    · rw [if_pos c13] at H
                      have c13b0 : decide (a0 < (rd l2 x9_2)) = true := decide_eq_true c13
                      clear c13
                      obtain rfl := Option.some.inj H
                      have p140 : 0 ≤ (x9_2 : Int) := of_decide_eq_true (by first | (with_reducible assumption) | assumption)
                      have q140 : x9_2 < (l2.length : Int) := of_decide_eq_true (by first | (with_reducible assumption) | assumption)
                      obtain ⟨ad140, e140, hx140_0⟩ := Kd.at_int HR2.out x9_2 p140 q140
                      cases e140
                      replace hx140_0 := (HB.out.cell (World.block_lt_of_cell? w _ hx140_0)).trans hx140_0
                      replace p140 := eq_true p140
                      replace q140 := eq_true q140
                      have p141 : 0 ≤ (x9_2 : Int) := of_decide_eq_true (by first | (with_reducible assumption) | assumption)
                      have q141 : x9_2 < (l2.length : Int) := of_decide_eq_true (by first | (with_reducible assumption) | assumption)
                      obtain ⟨ad141, e141, hx141_0⟩ := Kd.at_int HR2.out x9_2 p141 q141
                      obtain rfl : ad140 = ad141 := (by injection e141)
                      replace hx141_0 := (HB.out.cell (World.block_lt_of_cell? w _ hx141_0)).trans hx141_0
                      replace p141 := eq_true p141
                      replace q141 := eq_true q141
                      go_wp2
                      repeat (go_quiet (fail); try go_wp2)
                      go_ret
                      exact ⟨by first | rfl | (simp [errW_none, errW_some] <;> rfl) | (simp [*, errW_none, errW_some] <;> rfl), by repeat (first | (with_reducible first | exact HB.out | apply below_alloc | apply pw_below_drewN | apply below_drew1) | exact HB.out)⟩
                    · rw [if_neg c13] at H
                      have c13b0 : decide (a0 < (rd l2 x9_2)) = false := decide_eq_false c13
                      clear c13
                      replace H := Option.bind_eq_some_iff.mp H
                      obtain ⟨t142, A140, H⟩ := H
                      replace H : (if t142 = (rd l2 x9_2) then (pomaderef02_IsRanks.l0 k2 a0 l2 t136 (wrap64 (x9_2 + 1))) else (some false)) = some r := H
                      have A14 := Aside0.mk A140
                      clear A140
                      by_cases c15 : t142 = (rd l2 x9_2)
                      · rw [if_pos c15] at H
                        have c15b0 : (t142 == (rd l2 x9_2)) = true := beq_iff_eq.mpr c15
                        have c15b1 : (t142 != (rd l2 x9_2)) = false := bne_eq_false_iff_eq.mpr c15
                        clear c15
                        have H' := Aside0.mk H
                        clear H
                        have p140 : 0 ≤ (x9_2 : Int) := of_decide_eq_true (by first | (with_reducible assumption) | assumption)
                        have q140 : x9_2 < (l2.length : Int) := of_decide_eq_true (by first | (with_reducible assumption) | assumption)
                        obtain ⟨ad140, e140, hx140_0⟩ := Kd.at_int HR2.out x9_2 p140 q140
                        cases e140
                        replace hx140_0 := (HB.out.cell (World.block_lt_of_cell? w _ hx140_0)).trans hx140_0
                        replace p140 := eq_true p140
                        replace q140 := eq_true q140
                        have p141 : 0 ≤ (x9_2 : Int) := of_decide_eq_true (by first | (with_reducible assumption) | assumption)
                        have q141 : x9_2 < (l2.length : Int) := of_decide_eq_true (by first | (with_reducible assumption) | assumption)
                        obtain ⟨ad141, e141, hx141_0⟩ := Kd.at_int HR2.out x9_2 p141 q141
                        obtain rfl : ad140 = ad141 := (by injection e141)
                        replace hx141_0 := (HB.out.cell (World.block_lt_of_cell? w _ hx141_0)).trans hx141_0
                        replace p141 := eq_true p141
                        replace q141 := eq_true q141
                        obtain ⟨Ao16, co16, eo16⟩ := Kd.R_slice HO_7.out
                        subst eo16
                        go_wp2_with (first | (go_at_call 58; (with_reducible refine (pomaderef02_mex.calls k2 _ _ t136 _ _ l2 x9_2 t142 _ ?side1 ?side2 ?side3 ?side4 A14.out).mono ?_); (case side1 => repeat (first | exact (Kd.R_reads' HO_7.out).2.2 | (with_reducible refine Kd.C_alloc ?_ _) | (with_reducible refine Kd.C_drewN ?_ _) | (with_reducible refine Kd.C_drew ?_))); (case side2 => exact (Kd.R_reads' HO_7.out).2.1); (case side3 => repeat (first | exact (Kd.C_below HR2.out HB.out) | (with_reducible refine Kd.C_alloc ?_ _) | (with_reducible refine Kd.C_drewN ?_ _) | (with_reducible refine Kd.C_drew ?_))); (case side4 => exact HC2.out); rintro e w' ⟨rfl, ⟨nd, rfl⟩⟩; (try first | exact ⟨rfl, _, World.drewN_drewN _ _ _⟩ | exact ⟨rfl, _, Eq.trans (World.drewN_drewN _ _ _) (congrArg (World.drewN _) (Nat.add_assoc _ _ _))⟩); have p143 : 0 ≤ (x9_2 : Int) := of_decide_eq_true (by first | (with_reducible assumption) | assumption); have q143 : x9_2 < (l2.length : Int) := of_decide_eq_true (by first | (with_reducible assumption) | assumption); obtain ⟨ad143, e143, hx143_0⟩ := Kd.at_int HR2.out x9_2 p143 q143; obtain rfl : ad140 = ad143 := (by injection e143); replace hx143_0 := (HB.out.cell (World.block_lt_of_cell? w _ hx143_0)).trans hx143_0; replace p143 := eq_true p143; replace q143 := eq_true q143))
                        repeat (go_quiet (first | (go_at_call 58; (with_reducible refine (pomaderef02_mex.calls k2 _ _ t136 _ _ l2 x9_2 t142 _ ?side1 ?side2 ?side3 ?side4 A14.out).mono ?_); (case side1 => repeat (first | exact (Kd.R_reads' HO_7.out).2.2 | (with_reducible refine Kd.C_alloc ?_ _) | (with_reducible refine Kd.C_drewN ?_ _) | (with_reducible refine Kd.C_drew ?_))); (case side2 => exact (Kd.R_reads' HO_7.out).2.1); (case side3 => repeat (first | exact (Kd.C_below HR2.out HB.out) | (with_reducible refine Kd.C_alloc ?_ _) | (with_reducible refine Kd.C_drewN ?_ _) | (with_reducible refine Kd.C_drew ?_))); (case side4 => exact HC2.out); rintro e w' ⟨rfl, ⟨nd, rfl⟩⟩; (try first | exact ⟨rfl, _, World.drewN_drewN _ _ _⟩ | exact ⟨rfl, _, Eq.trans (World.drewN_drewN _ _ _) (congrArg (World.drewN _) (Nat.add_assoc _ _ _))⟩); have p143 : 0 ≤ (x9_2 : Int) := of_decide_eq_true (by first | (with_reducible assumption) | assumption); have q143 : x9_2 < (l2.length : Int) := of_decide_eq_true (by first | (with_reducible assumption) | assumption); obtain ⟨ad143, e143, hx143_0⟩ := Kd.at_int HR2.out x9_2 p143 q143; obtain rfl : ad140 = ad143 := (by injection e143); replace hx143_0 := (HB.out.cell (World.block_lt_of_cell? w _ hx143_0)).trans hx143_0; replace p143 := eq_true p143; replace q143 := eq_true q143)); try go_wp2_with (first | (go_at_call 58; (with_reducible refine (pomaderef02_mex.calls k2 _ _ t136 _ _ l2 x9_2 t142 _ ?side1 ?side2 ?side3 ?side4 A14.out).mono ?_); (case side1 => repeat (first | exact (Kd.R_reads' HO_7.out).2.2 | (with_reducible refine Kd.C_alloc ?_ _) | (with_reducible refine Kd.C_drewN ?_ _) | (with_reducible refine Kd.C_drew ?_))); (case side2 => exact (Kd.R_reads' HO_7.out).2.1); (case side3 => repeat (first | exact (Kd.C_below HR2.out HB.out) | (with_reducible refine Kd.C_alloc ?_ _) | (with_reducible refine Kd.C_drewN ?_ _) | (with_reducible refine Kd.C_drew ?_))); (case side4 => exact HC2.out); rintro e w' ⟨rfl, ⟨nd, rfl⟩⟩; (try first | exact ⟨rfl, _, World.drewN_drewN _ _ _⟩ | exact ⟨rfl, _, Eq.trans (World.drewN_drewN _ _ _) (congrArg (World.drewN _) (Nat.add_assoc _ _ _))⟩); have p143 : 0 ≤ (x9_2 : Int) := of_decide_eq_true (by first | (with_reducible assumption) | assumption); have q143 : x9_2 < (l2.length : Int) := of_decide_eq_true (by first | (with_reducible assumption) | assumption); obtain ⟨ad143, e143, hx143_0⟩ := Kd.at_int HR2.out x9_2 p143 q143; obtain rfl : ad140 = ad143 := (by injection e143); replace hx143_0 := (HB.out.cell (World.block_lt_of_cell? w _ hx143_0)).trans hx143_0; replace p143 := eq_true p143; replace q143 := eq_true q143)))
                        go_roundg k2
                        case measure => have := HJ4.out; have := HK2.out; omega
                        case rel => exact ⟨(wrap64 (x9_2 + 1)), (by first | rfl | (simp; done) | (simp [*]; done)), H', ⟨by have := HJ4.out; have := HK2.out; omega⟩, ⟨by (with_reducible repeat (first | apply Kd.R_alloc | apply Kd.R_drewN | apply Kd.R_drew)); exact HO_7.out⟩, ⟨by repeat (first | (with_reducible first | exact HB.out | apply below_alloc | apply pw_below_drewN | apply below_drew1) | exact HB.out)⟩⟩
                      · rw [if_neg c15] at H
                        have c15b0 : (t142 == (rd l2 x9_2)) = false := beq_eq_false_iff_ne.mpr c15
                        have c15b1 : (t142 != (rd l2 x9_2)) = true := bne_iff_ne.mpr c15
                        obtain rfl := Option.some.inj H
                        have p140 : 0 ≤ (x9_2 : Int) := of_decide_eq_true (by first | (with_reducible assumption) | assumption)
                        have q140 : x9_2 < (l2.length : Int) := of_decide_eq_true (by first | (with_reducible assumption) | assumption)
                        obtain ⟨ad140, e140, hx140_0⟩ := Kd.at_int HR2.out x9_2 p140 q140
                        cases e140
                        replace hx140_0 := (HB.out.cell (World.block_lt_of_cell? w _ hx140_0)).trans hx140_0
                        replace p140 := eq_true p140
                        replace q140 := eq_true q140
                        have p141 : 0 ≤ (x9_2 : Int) := of_decide_eq_true (by first | (with_reducible assumption) | assumption)
                        have q141 : x9_2 < (l2.length : Int) := of_decide_eq_true (by first | (with_reducible assumption) | assumption)
                        obtain ⟨ad141, e141, hx141_0⟩ := Kd.at_int HR2.out x9_2 p141 q141
                        obtain rfl : ad140 = ad141 := (by injection e141)
                        replace hx141_0 := (HB.out.cell (World.block_lt_of_cell? w _ hx141_0)).trans hx141_0
                        replace p141 := eq_true p141
                        replace q141 := eq_true q141
                        obtain ⟨Ao17, co17, eo17⟩ := Kd.R_slice HO_7.out
                        subst eo17
                        go_wp2_with (first | (go_at_call 58; (with_reducible refine (pomaderef02_mex.calls k2 _ _ t136 _ _ l2 x9_2 t142 _ ?side1 ?side2 ?side3 ?side4 A14.out).mono ?_); (case side1 => repeat (first | exact (Kd.R_reads' HO_7.out).2.2 | (with_reducible refine Kd.C_alloc ?_ _) | (with_reducible refine Kd.C_drewN ?_ _) | (with_reducible refine Kd.C_drew ?_))); (case side2 => exact (Kd.R_reads' HO_7.out).2.1); (case side3 => repeat (first | exact (Kd.C_below HR2.out HB.out) | (with_reducible refine Kd.C_alloc ?_ _) | (with_reducible refine Kd.C_drewN ?_ _) | (with_reducible refine Kd.C_drew ?_))); (case side4 => exact HC2.out); rintro e w' ⟨rfl, ⟨nd, rfl⟩⟩; (try first | exact ⟨rfl, _, World.drewN_drewN _ _ _⟩ | exact ⟨rfl, _, Eq.trans (World.drewN_drewN _ _ _) (congrArg (World.drewN _) (Nat.add_assoc _ _ _))⟩); have p143 : 0 ≤ (x9_2 : Int) := of_decide_eq_true (by first | (with_reducible assumption) | assumption); have q143 : x9_2 < (l2.length : Int) := of_decide_eq_true (by first | (with_reducible assumption) | assumption); obtain ⟨ad143, e143, hx143_0⟩ := Kd.at_int HR2.out x9_2 p143 q143; obtain rfl : ad140 = ad143 := (by injection e143); replace hx143_0 := (HB.out.cell (World.block_lt_of_cell? w _ hx143_0)).trans hx143_0; replace p143 := eq_true p143; replace q143 := eq_true q143))
                        repeat (go_quiet (first | (go_at_call 58; (with_reducible refine (pomaderef02_mex.calls k2 _ _ t136 _ _ l2 x9_2 t142 _ ?side1 ?side2 ?side3 ?side4 A14.out).mono ?_); (case side1 => repeat (first | exact (Kd.R_reads' HO_7.out).2.2 | (with_reducible refine Kd.C_alloc ?_ _) | (with_reducible refine Kd.C_drewN ?_ _) | (with_reducible refine Kd.C_drew ?_))); (case side2 => exact (Kd.R_reads' HO_7.out).2.1); (case side3 => repeat (first | exact (Kd.C_below HR2.out HB.out) | (with_reducible refine Kd.C_alloc ?_ _) | (with_reducible refine Kd.C_drewN ?_ _) | (with_reducible refine Kd.C_drew ?_))); (case side4 => exact HC2.out); rintro e w' ⟨rfl, ⟨nd, rfl⟩⟩; (try first | exact ⟨rfl, _, World.drewN_drewN _ _ _⟩ | exact ⟨rfl, _, Eq.trans (World.drewN_drewN _ _ _) (congrArg (World.drewN _) (Nat.add_assoc _ _ _))⟩); have p143 : 0 ≤ (x9_2 : Int) := of_decide_eq_true (by first | (with_reducible assumption) | assumption); have q143 : x9_2 < (l2.length : Int) := of_decide_eq_true (by first | (with_reducible assumption) | assumption); obtain ⟨ad143, e143, hx143_0⟩ := Kd.at_int HR2.out x9_2 p143 q143; obtain rfl : ad140 = ad143 := (by injection e143); replace hx143_0 := (HB.out.cell (World.block_lt_of_cell? w _ hx143_0)).trans hx143_0; replace p143 := eq_true p143; replace q143 := eq_true q143)); try go_wp2_with (first | (go_at_call 58; (with_reducible refine (pomaderef02_mex.calls k2 _ _ t136 _ _ l2 x9_2 t142 _ ?side1 ?side2 ?side3 ?side4 A14.out).mono ?_); (case side1 => repeat (first | exact (Kd.R_reads' HO_7.out).2.2 | (with_reducible refine Kd.C_alloc ?_ _) | (with_reducible refine Kd.C_drewN ?_ _) | (with_reducible refine Kd.C_drew ?_))); (case side2 => exact (Kd.R_reads' HO_7.out).2.1); (case side3 => repeat (first | exact (Kd.C_below HR2.out HB.out) | (with_reducible refine Kd.C_alloc ?_ _) | (with_reducible refine Kd.C_drewN ?_ _) | (with_reducible refine Kd.C_drew ?_))); (case side4 => exact HC2.out); rintro e w' ⟨rfl, ⟨nd, rfl⟩⟩; (try first | exact ⟨rfl, _, World.drewN_drewN _ _ _⟩ | exact ⟨rfl, _, Eq.trans (World.drewN_drewN _ _ _) (congrArg (World.drewN _) (Nat.add_assoc _ _ _))⟩); have p143 : 0 ≤ (x9_2 : Int) := of_decide_eq_true (by first | (with_reducible assumption) | assumption); have q143 : x9_2 < (l2.length : Int) := of_decide_eq_true (by first | (with_reducible assumption) | assumption); obtain ⟨ad143, e143, hx143_0⟩ := Kd.at_int HR2.out x9_2 p143 q143; obtain rfl : ad140 = ad143 := (by injection e143); replace hx143_0 := (HB.out.cell (World.block_lt_of_cell? w _ hx143_0)).trans hx143_0; replace p143 := eq_true p143; replace q143 := eq_true q143)))
                        go_ret
                        exact ⟨by first | rfl | (simp [errW_none, errW_some] <;> rfl) | (simp [*, errW_none, errW_some] <;> rfl), by repeat (first | (with_reducible first | exact HB.out | apply below_alloc | apply pw_below_drewN | apply below_drew1) | exact HB.out)⟩
                · rw [if_neg c11] at H
                  exact absurd H (by simp)
              · rw [if_neg c10] at H
                exact absurd H (by simp)
            · rw [if_neg c9] at H
              have c9b0 : decide (x9_2 < a0) = false := decide_eq_false c9
              clear c9
              obtain rfl := Option.some.inj H
              go_wp2
              repeat (go_quiet (fail); try go_wp2)
              go_ret
              exact ⟨by first | rfl | (simp [errW_none, errW_some] <;> rfl) | (simp [*, errW_none, errW_some] <;> rfl), by repeat (first | (with_reducible first | exact HB.out | apply below_alloc | apply pw_below_drewN | apply below_drew1) | exact HB.out)⟩
def pomaderef02_Set.l0 : Nat → Int → List Int → Int → Int → Option (Int × Bool)
  | 0, _, _, _, _ => none
  | k + 1, x0, x1, x6, x7 => if x7 < (x1.length : Int) then (if 0 ≤ x7 then (if (rd x1 x7) < 0 then (some (0, false)) else (if (rd x1 x7) ≥ x0 then (some (0, false)) else (if x7 > 0 then (if 0 ≤ (wrap64 (x7 - 1)) then (if (wrap64 (x7 - 1)) < (x1.length : Int) then (if (rd x1 x7) ≤ (rd x1 (wrap64 (x7 - 1))) then (some (0, false)) else (if 0 ≤ (rd x1 x7) then (pomaderef02_Set.l0 k x0 x1 (wrap64 (x6 + (shl .i64 1 (rd x1 x7)))) (wrap64 (x7 + 1))) else (none))) else (none)) else (none)) else (if 0 ≤ (rd x1 x7) then (pomaderef02_Set.l0 k x0 x1 (wrap64 (x6 + (shl .i64 1 (rd x1 x7)))) (wrap64 (x7 + 1))) else (none))))) else (none)) else (some (x6, true))
def pomaderef02_Set.f (k : Nat) (a0 : Int) (l1 : List Int) : Option (Int × Bool) := pomaderef02_Set.l0 k a0 l1 0 0
theorem pomaderef02_Set.mono_l : ∀ k, (∀ y0 y1 y2 y3, LeO (pomaderef02_Set.l0 k y0 y1 y2 y3) (pomaderef02_Set.l0 (k + 1) y0 y1 y2 y3))
  | 0 => fun _ _ _ _ r h => by simp [pomaderef02_Set.l0] at h
  | k + 1 => by
    have ih0 := pomaderef02_Set.mono_l k
    · intro y0 y1 y2 y3
      unfold pomaderef02_Set.l0
      repeat' first
      | (with_reducible exact ih0 _ _ _ _)
      | (with_reducible exact LeO.refl _)
      | (with_reducible exact LeO.none _)
      | (with_reducible refine LeO.ite ?_ ?_)
      | (with_reducible refine LeO.bind ?_ (fun _ => ?_))
      | exact ih0 _ _ _ _
      | exact LeO.none _
      | refine LeO.ite ?_ ?_
      | refine LeO.bind ?_ (fun _ => ?_)
theorem pomaderef02_Set.mono : ∀ a0 a1 k, LeO (pomaderef02_Set.f k a0 a1) (pomaderef02_Set.f (k + 1) a0 a1) := by
  intro a0 a1 k
  have ih0 := pomaderef02_Set.mono_l k
  unfold pomaderef02_Set.f
  repeat' first
      | (with_reducible exact ih0 _ _ _ _)
      | (with_reducible exact LeO.refl _)
      | (with_reducible exact LeO.none _)
      | (with_reducible refine LeO.ite ?_ ?_)
      | (with_reducible refine LeO.bind ?_ (fun _ => ?_))
      | exact ih0 _ _ _ _
      | exact LeO.none _
      | refine LeO.ite ?_ ?_
      | refine LeO.bind ?_ (fun _ => ?_)
set_option maxHeartbeats 8000000 in
set_option maxRecDepth 100000 in
theorem pomaderef02_Set.calls (k : Nat) (a0 : Int) (A1 : Option Addr) (c1 : Nat) (l1 : List Int) (r1 : Int) (r2 : Bool) (w : World) (hr1 : Kd.C (Kd.int .i64) w A1 l1.length l1) (hc1 : l1.length ≤ c1) (h : pomaderef02_Set.f k a0 l1 = some (r1, r2)) :
    Calls Try.prog 69 #[.int .i64 a0, .slice A1 l1.length c1] w fun e w' => e = .returned (.tuple #[.int .i64 r1, .bool r2]) ∧ Drawn0 w w' := by
  have HR1 := Aside0.mk hr1
  have HC1 := Aside0.mk hc1
  clear hr1 hc1
  have H : (pomaderef02_Set.l0 k a0 l1 0 0) = some (r1, r2) := h
  clear h
  have H' := Aside0.mk H
  clear H
  go_enter Try.func69, Try.ntmps69
  go_wp2
  repeat (go_quiet (fail); try go_wp2)
  go_loopg [6, 7] k (fun kq v6 v7 w' => ∃ (x6_1 : Int) (x7_1 : Int), v6 = .int .i64 x6_1 ∧ v7 = .int .i64 x7_1 ∧ Aside0 (pomaderef02_Set.l0 kq a0 l1 x6_1 x7_1 = some (r1, r2)) ∧ Aside0 (kq ≤ k) ∧ Drawn0 w w')
  case atStart => exact ⟨(0), (0), (by first | rfl | (simp; done) | (simp [*]; done)), (by first | rfl | (simp; done) | (simp [*]; done)), H', ⟨Nat.le_refl _⟩, by repeat (first | exact Drawn0.refl _ | apply Drawn0.step)⟩
  case round =>
    clear H'
    try clear c1
    try clear p2
    obtain ⟨x6_1, x7_1, rfl, rfl, HA, HK1, ⟨m1, rfl⟩⟩ := hrel
    cases gk with
    | zero => exact absurd HA.out (by simp [pomaderef02_Set.l0])
    | succ k1 =>
      have H := HA.out
      clear HA
      simp only [pomaderef02_Set.l0] at H
      by_cases c3 : x7_1 < (l1.length : Int)
      · rw [if_pos c3] at H
        have c3b0 : decide (x7_1 < (l1.length : Int)) = true := decide_eq_true c3
        clear c3
        by_cases c4 : 0 ≤ x7_1
        · rw [if_pos c4] at H
          have c4b0 : decide (0 ≤ x7_1) = true := decide_eq_true c4
          clear c4
          by_cases c5 : (rd l1 x7_1) < 0
          · rw [if_pos c5] at H
            have c5b0 : decide ((rd l1 x7_1) < 0) = true := decide_eq_true c5
            clear c5
            simp only [Option.some.injEq, Prod.mk.injEq] at H
            obtain ⟨rfl, rfl⟩ := H
            have p125 : 0 ≤ (x7_1 : Int) := of_decide_eq_true (by first | (with_reducible assumption) | assumption)
            have q125 : x7_1 < (l1.length : Int) := of_decide_eq_true (by first | (with_reducible assumption) | assumption)
            obtain ⟨ad125, e125, hx125_0⟩ := Kd.at_int HR1.out x7_1 p125 q125
            cases e125
            replace p125 := eq_true p125
            replace q125 := eq_true q125
            go_wp2
            repeat (go_quiet (fail); try go_wp2)
            go_ret2
            exact ⟨by first | rfl | (simp; done) | (simp [*]; done), by repeat (first | exact Drawn0.refl _ | apply Drawn0.step)⟩
          · rw [if_neg c5] at H
            have c5b0 : decide ((rd l1 x7_1) < 0) = false := decide_eq_false c5
            clear c5
            by_cases c6 : (rd l1 x7_1) ≥ a0
            · rw [if_pos c6] at H
              have c6b0 : decide (a0 ≤ (rd l1 x7_1)) = true := decide_eq_true c6
              clear c6
              simp only [Option.some.injEq, Prod.mk.injEq] at H
              obtain ⟨rfl, rfl⟩ := H
              have p125 : 0 ≤ (x7_1 : Int) := of_decide_eq_true (by first | (with_reducible assumption) | assumption)
              have q125 : x7_1 < (l1.length : Int) := of_decide_eq_true (by first | (with_reducible assumption) | assumption)
              obtain ⟨ad125, e125, hx125_0⟩ := Kd.at_int HR1.out x7_1 p125 q125
              cases e125
              replace p125 := eq_true p125
              replace q125 := eq_true q125
              have p126 : 0 ≤ (x7_1 : Int) := of_decide_eq_true (by first | (with_reducible assumption) | assumption)
              have q126 : x7_1 < (l1.length : Int) := of_decide_eq_true (by first | (with_reducible assumption) | assumption)
              obtain ⟨ad126, e126, hx126_0⟩ := Kd.at_int HR1.out x7_1 p126 q126
              obtain rfl : ad125 = ad126 := (by injection e126)
              replace p126 := eq_true p126
              replace q126 := eq_true q126
              go_wp2
              repeat (go_quiet (fail); try go_wp2)
              go_ret2
              exact ⟨by first | rfl | (simp; done) | (simp [*]; done), by repeat (first | exact Drawn0.refl _ | apply Drawn0.step)⟩
            · rw [if_neg c6] at H
              have c6b0 : decide (a0 ≤ (rd l1 x7_1)) = false := decide_eq_false c6
              clear c6
              by_cases c7 : x7_1 > 0
              · rw [if_pos c7] at H
                have c7b0 : decide (0 < x7_1) = true := decide_eq_true c7
                clear c7
                obtain ⟨ji8, hji8⟩ : ∃ j_ : Int, (wrap64 (x7_1 - 1)) = j_ := ⟨_, rfl⟩
                replace H : (if 0 ≤ (ji8) then (if (ji8) < (l1.length : Int) then (if (rd l1 x7_1) ≤ (rd l1 (ji8)) then (some (0, false)) else (if 0 ≤ (rd l1 x7_1) then (pomaderef02_Set.l0 k1 a0 l1 (wrap64 (x6_1 + (shl .i64 1 (rd l1 x7_1)))) (wrap64 (x7_1 + 1))) else (none))) else (none)) else (none)) = some (r1, r2) := by first | (rw [hji8] at H; exact H) | (simp only [hji8] at H ⊢; exact H)
                have hji8w : (IntKind.i64.wrap (x7_1 - 1)) = ji8 := (i64_w _).trans hji8
                by_cases c9 : 0 ≤ (ji8)
                · rw [if_pos c9] at H
                  have c9b0 : decide (0 ≤ (ji8)) = true := decide_eq_true c9
                  clear c9
                  by_cases c10 : (ji8) < (l1.length : Int)
                  · rw [if_pos c10] at H
                    have c10b0 : decide ((ji8) < (l1.length : Int)) = true := decide_eq_true c10
                    clear c10
                    by_cases c11 : (rd l1 x7_1) ≤ (rd l1 (ji8))
                    · rw [if_pos c11] at H
                      have c11b0 : decide ((rd l1 x7_1) ≤ (rd l1 (ji8))) = true := decide_eq_true c11
                      clear c11
                      simp only [Option.some.injEq, Prod.mk.injEq] at H
                      obtain ⟨rfl, rfl⟩ := H
                      have p125 : 0 ≤ (x7_1 : Int) := of_decide_eq_true (by first | (with_reducible assumption) | assumption)
                      have q125 : x7_1 < (l1.length : Int) := of_decide_eq_true (by first | (with_reducible assumption) | assumption)
                      obtain ⟨ad125, e125, hx125_0⟩ := Kd.at_int HR1.out x7_1 p125 q125
                      cases e125
                      replace p125 := eq_true p125
                      replace q125 := eq_true q125
                      have p126 : 0 ≤ (x7_1 : Int) := of_decide_eq_true (by first | (with_reducible assumption) | assumption)
                      have q126 : x7_1 < (l1.length : Int) := of_decide_eq_true (by first | (with_reducible assumption) | assumption)
                      obtain ⟨ad126, e126, hx126_0⟩ := Kd.at_int HR1.out x7_1 p126 q126
                      obtain rfl : ad125 = ad126 := (by injection e126)
                      replace p126 := eq_true p126
                      replace q126 := eq_true q126
                      have p127 : 0 ≤ (x7_1 : Int) := of_decide_eq_true (by first | (with_reducible assumption) | assumption)
                      have q127 : x7_1 < (l1.length : Int) := of_decide_eq_true (by first | (with_reducible assumption) | assumption)
                      obtain ⟨ad127, e127, hx127_0⟩ := Kd.at_int HR1.out x7_1 p127 q127
                      obtain rfl : ad125 = ad127 := (by injection e127)
                      replace p127 := eq_true p127
                      replace q127 := eq_true q127
                      have p128 : 0 ≤ ((ji8) : Int) := of_decide_eq_true (by first | (with_reducible assumption) | assumption)
                      have q128 : (ji8) < (l1.length : Int) := of_decide_eq_true (by first | (with_reducible assumption) | assumption)
                      obtain ⟨ad128, e128, hx128_0⟩ := Kd.at_int HR1.out (ji8) p128 q128
                      obtain rfl : ad125 = ad128 := (by injection e128)
                      replace p128 := eq_true p128
                      replace q128 := eq_true q128
                      go_wp2
                      repeat (go_quiet (fail); try go_wp2)
                      go_ret2
                      exact ⟨by first | rfl | (simp; done) | (simp only [← hji8] <;> (first | rfl | simp)) | (simp [*]; done), by repeat (first | exact Drawn0.refl _ | apply Drawn0.step)⟩
                    · rw [if_neg c11] at H
                      have c11b0 : decide ((rd l1 x7_1) ≤ (rd l1 (ji8))) = false := decide_eq_false c11
                      clear c11
                      by_cases c12 : 0 ≤ (rd l1 x7_1)
                      · rw [if_pos c12] at H
                        have c12b0 := eq_true c12
                        have c12b1 : decide (0 ≤ (rd l1 x7_1)) = true := decide_eq_true c12
                        clear c12
                        obtain ⟨ji13, hji13⟩ : ∃ j_ : Int, (shl .i64 1 (rd l1 x7_1)) = j_ := ⟨_, rfl⟩
                        replace H : (pomaderef02_Set.l0 k1 a0 l1 (wrap64 (x6_1 + (ji13))) (wrap64 (x7_1 + 1))) = some (r1, r2) := by first | (rw [hji13] at H; exact H) | (simp only [hji13] at H ⊢; exact H)
                        have hji13_ : (IntKind.i64.wrap (1 * 2 ^ min (rd l1 x7_1).toNat 64)) = ji13 := hji13
                        have hji13z : (rd l1 x7_1) ≤ 64 → (IntKind.i64.wrap (1 * 2 ^ (rd l1 x7_1).toNat)) = ji13 := shl_small hji13
                        have hji13u : (IntKind.i64.wrap (2 ^ min (rd l1 x7_1).toNat 64)) = ji13 := by have h_ := hji13_; rw [Int.one_mul] at h_; exact h_
                        have hji13v : (rd l1 x7_1) ≤ 64 → (IntKind.i64.wrap (2 ^ (rd l1 x7_1).toNat)) = ji13 := fun hle_ => by have h_ := hji13z hle_; rw [Int.one_mul] at h_; exact h_
                        have hji13y : (wrap64 (1 * 2 ^ min (rd l1 x7_1).toNat 64)) = ji13 := (i64_w _).symm.trans hji13_
                        have hji13x : (rd l1 x7_1) ≤ 64 → (wrap64 (1 * 2 ^ (rd l1 x7_1).toNat)) = ji13 := fun h_ => (i64_w _).symm.trans (hji13z h_)
                        have H' := Aside0.mk H
                        clear H
                        have p125 : 0 ≤ (x7_1 : Int) := of_decide_eq_true (by first | (with_reducible assumption) | assumption)
                        have q125 : x7_1 < (l1.length : Int) := of_decide_eq_true (by first | (with_reducible assumption) | assumption)
                        obtain ⟨ad125, e125, hx125_0⟩ := Kd.at_int HR1.out x7_1 p125 q125
                        cases e125
                        replace p125 := eq_true p125
                        replace q125 := eq_true q125
                        have p126 : 0 ≤ (x7_1 : Int) := of_decide_eq_true (by first | (with_reducible assumption) | assumption)
                        have q126 : x7_1 < (l1.length : Int) := of_decide_eq_true (by first | (with_reducible assumption) | assumption)
                        obtain ⟨ad126, e126, hx126_0⟩ := Kd.at_int HR1.out x7_1 p126 q126
                        obtain rfl : ad125 = ad126 := (by injection e126)
                        replace p126 := eq_true p126
                        replace q126 := eq_true q126
                        have p127 : 0 ≤ (x7_1 : Int) := of_decide_eq_true (by first | (with_reducible assumption) | assumption)
                        have q127 : x7_1 < (l1.length : Int) := of_decide_eq_true (by first | (with_reducible assumption) | assumption)
                        obtain ⟨ad127, e127, hx127_0⟩ := Kd.at_int HR1.out x7_1 p127 q127
                        obtain rfl : ad125 = ad127 := (by injection e127)
                        replace p127 := eq_true p127
                        replace q127 := eq_true q127
                        have p128 : 0 ≤ ((ji8) : Int) := of_decide_eq_true (by first | (with_reducible assumption) | assumption)
                        have q128 : (ji8) < (l1.length : Int) := of_decide_eq_true (by first | (with_reducible assumption) | assumption)
                        obtain ⟨ad128, e128, hx128_0⟩ := Kd.at_int HR1.out (ji8) p128 q128
                        obtain rfl : ad125 = ad128 := (by injection e128)
                        replace p128 := eq_true p128
                        replace q128 := eq_true q128
                        have p129 : 0 ≤ (x7_1 : Int) := of_decide_eq_true (by first | (with_reducible assumption) | assumption)
                        have q129 : x7_1 < (l1.length : Int) := of_decide_eq_true (by first | (with_reducible assumption) | assumption)
                        obtain ⟨ad129, e129, hx129_0⟩ := Kd.at_int HR1.out x7_1 p129 q129
                        obtain rfl : ad125 = ad129 := (by injection e129)
                        replace p129 := eq_true p129
                        replace q129 := eq_true q129
                        go_wp2
                        repeat (go_quiet (fail); try go_wp2)
                        go_roundg k1
                        case measure => have := HK1.out; omega
                        case rel => exact ⟨(wrap64 (x6_1 + (ji13))), (wrap64 (x7_1 + 1)), (by first | rfl | (simp; done) | (simp only [← hji13] <;> (first | rfl | simp)) | (simp [*]; done)), (by first | rfl | (simp; done) | (simp [*]; done)), H', ⟨by have := HK1.out; omega⟩, by repeat (first | exact Drawn0.refl _ | apply Drawn0.step)⟩
                      · rw [if_neg c12] at H
                        exact absurd H (by simp)
                  · rw [if_neg c10] at H
                    exact absurd H (by simp)
                · rw [if_neg c9] at H
                  exact absurd H (by simp)
              · rw [if_neg c7] at H
                have c7b0 : decide (0 < x7_1) = false := decide_eq_false c7
                clear c7
                by_cases c14 : 0 ≤ (rd l1 x7_1)
                · rw [if_pos c14] at H
                  have c14b0 := eq_true c14
                  have c14b1 : decide (0 ≤ (rd l1 x7_1)) = true := decide_eq_true c14
                  clear c14
                  obtain ⟨ji15, hji15⟩ : ∃ j_ : Int, (shl .i64 1 (rd l1 x7_1)) = j_ := ⟨_, rfl⟩
                  replace H : (pomaderef02_Set.l0 k1 a0 l1 (wrap64 (x6_1 + (ji15))) (wrap64 (x7_1 + 1))) = some (r1, r2) := by first | (rw [hji15] at H; exact H) | (simp only [hji15] at H ⊢; exact H)
                  have hji15_ : (IntKind.i64.wrap (1 * 2 ^ min (rd l1 x7_1).toNat 64)) = ji15 := hji15
                  have hji15z : (rd l1 x7_1) ≤ 64 → (IntKind.i64.wrap (1 * 2 ^ (rd l1 x7_1).toNat)) = ji15 := shl_small hji15
                  have hji15u : (IntKind.i64.wrap (2 ^ min (rd l1 x7_1).toNat 64)) = ji15 := by have h_ := hji15_; rw [Int.one_mul] at h_; exact h_
                  have hji15v : (rd l1 x7_1) ≤ 64 → (IntKind.i64.wrap (2 ^ (rd l1 x7_1).toNat)) = ji15 := fun hle_ => by have h_ := hji15z hle_; rw [Int.one_mul] at h_; exact h_
                  have hji15y : (wrap64 (1 * 2 ^ min (rd l1 x7_1).toNat 64)) = ji15 := (i64_w _).symm.trans hji15_
                  have hji15x : (rd l1 x7_1) ≤ 64 → (wrap64 (1 * 2 ^ (rd l1 x7_1).toNat)) = ji15 := fun h_ => (i64_w _).symm.trans (hji15z h_)
                  have H' := Aside0.mk H
                  clear H
                  have p125 : 0 ≤ (x7_1 : Int) := of_decide_eq_true (by first | (with_reducible assumption) | assumption)
                  have q125 : x7_1 < (l1.length : Int) := of_decide_eq_true (by first | (with_reducible assumption) | assumption)
                  obtain ⟨ad125, e125, hx125_0⟩ := Kd.at_int HR1.out x7_1 p125 q125
                  cases e125
                  replace p125 := eq_true p125
                  replace q125 := eq_true q125
                  have p126 : 0 ≤ (x7_1 : Int) := of_decide_eq_true (by first | (with_reducible assumption) | assumption)
                  have q126 : x7_1 < (l1.length : Int) := of_decide_eq_true (by first | (with_reducible assumption) | assumption)
                  obtain ⟨ad126, e126, hx126_0⟩ := Kd.at_int HR1.out x7_1 p126 q126
                  obtain rfl : ad125 = ad126 := (by injection e126)
                  replace p126 := eq_true p126
                  replace q126 := eq_true q126
                  have p130 : 0 ≤ (x7_1 : Int) := of_decide_eq_true (by first | (with_reducible assumption) | assumption)
                  have q130 : x7_1 < (l1.length : Int) := of_decide_eq_true (by first | (with_reducible assumption) | assumption)
                  obtain ⟨ad130, e130, hx130_0⟩ := Kd.at_int HR1.out x7_1 p130 q130
                  obtain rfl : ad125 = ad130 := (by injection e130)
                  replace p130 := eq_true p130
                  replace q130 := eq_true q130
                  go_wp2
                  repeat (go_quiet (fail); try go_wp2)
                  go_roundg k1
                  case measure => have := HK1.out; omega
                  case rel => exact ⟨(wrap64 (x6_1 + (ji15))), (wrap64 (x7_1 + 1)), (by first | rfl | (simp; done) | (simp only [← hji15] <;> (first | rfl | simp)) | (simp [*]; done)), (by first | rfl | (simp; done) | (simp [*]; done)), H', ⟨by have := HK1.out; omega⟩, by repeat (first | exact Drawn0.refl _ | apply Drawn0.step)⟩
                · rw [if_neg c14] at H
                  exact absurd H (by simp)
        · rw [if_neg c4] at H
          exact absurd H (by simp)
      · rw [if_neg c3] at H
        have c3b0 : decide (x7_1 < (l1.length : Int)) = false := decide_eq_false c3
        clear c3
        simp only [Option.some.injEq, Prod.mk.injEq] at H
        obtain ⟨rfl, rfl⟩ := H
        go_wp2
        repeat (go_quiet (fail); try go_wp2)
        go_ret2
        exact ⟨by first | rfl | (simp; done) | (simp [*]; done), by repeat (first | exact Drawn0.refl _ | apply Drawn0.step)⟩
end Go.Proofs.Ytmobefgnkiboaaa.Im

namespace Go.Proofs.Ytmobefgnkiboaaa.Im
open Go.RowKit Go.Proofs.YtmobefgnkiboaaaW.PrintWords Go.Proofs.YtmobefgnkiboaaaW.PrintLast Go.Proofs.YtmobefgnkiboaaaW.PrintMore
attribute [local go_sem] max2_int min2_int max_two min_two max_three min_three max_four min_four
set_option linter.unusedVariables false
set_option linter.unusedSimpArgs false
def pomaderef02_independent.l0 : Nat → List Int → Int → Int → Option (Bool)
  | 0, _, _, _ => none
  | k + 1, x0, x1, x5 => if x5 < (x0.length : Int) then (if 0 ≤ x5 then (if (Int.tmod (shr .i64 x1 x5) 2) = 1 then (if (Go.bits .and .i64 (rd x0 x5) x1) = 0 then (pomaderef02_independent.l0 k x0 x1 (wrap64 (x5 + 1))) else (some false)) else (pomaderef02_independent.l0 k x0 x1 (wrap64 (x5 + 1)))) else (none)) else (some true)
def pomaderef02_independent.f (k : Nat) (l0 : List Int) (a1 : Int) : Option (Bool) := pomaderef02_independent.l0 k l0 a1 0
theorem pomaderef02_independent.mono_l : ∀ k, (∀ y0 y1 y2, LeO (pomaderef02_independent.l0 k y0 y1 y2) (pomaderef02_independent.l0 (k + 1) y0 y1 y2))
  | 0 => fun _ _ _ r h => by simp [pomaderef02_independent.l0] at h
  | k + 1 => by
    have ih0 := pomaderef02_independent.mono_l k
    · intro y0 y1 y2
      unfold pomaderef02_independent.l0
      repeat' first
      | (with_reducible exact ih0 _ _ _)
      | (with_reducible exact LeO.refl _)
      | (with_reducible exact LeO.none _)
      | (with_reducible refine LeO.ite ?_ ?_)
      | (with_reducible refine LeO.bind ?_ (fun _ => ?_))
      | exact ih0 _ _ _
      | exact LeO.none _
      | refine LeO.ite ?_ ?_
      | refine LeO.bind ?_ (fun _ => ?_)
theorem pomaderef02_independent.mono : ∀ a0 a1 k, LeO (pomaderef02_independent.f k a0 a1) (pomaderef02_independent.f (k + 1) a0 a1) := by
  intro a0 a1 k
  have ih0 := pomaderef02_independent.mono_l k
  unfold pomaderef02_independent.f
  repeat' first
      | (with_reducible exact ih0 _ _ _)
      | (with_reducible exact LeO.refl _)
      | (with_reducible exact LeO.none _)
      | (with_reducible refine LeO.ite ?_ ?_)
      | (with_reducible refine LeO.bind ?_ (fun _ => ?_))
      | exact ih0 _ _ _
      | exact LeO.none _
      | refine LeO.ite ?_ ?_
      | refine LeO.bind ?_ (fun _ => ?_)
set_option maxHeartbeats 8000000 in
set_option maxRecDepth 100000 in
theorem pomaderef02_independent.calls (k : Nat) (A0 : Option Addr) (c0 : Nat) (l0 : List Int) (a1 : Int) (r : Bool) (w : World) (hr0 : Kd.C (Kd.int .i64) w A0 l0.length l0) (hc0 : l0.length ≤ c0) (h : pomaderef02_independent.f k l0 a1 = some r) :
    Calls Try.prog 88 #[.slice A0 l0.length c0, .int .i64 a1] w fun e w' => e = .returned (.bool r) ∧ Drawn0 w w' := by
  have HR0 := Aside0.mk hr0
  have HC0 := Aside0.mk hc0
  clear hr0 hc0
  have H : (pomaderef02_independent.l0 k l0 a1 0) = some r := h
  clear h
  have H' := Aside0.mk H
  clear H
  go_enter Try.func88, Try.ntmps88
  go_wp2
  go_loopg [5] k (fun kq v5 w' => ∃ (x5_1 : Int), v5 = .int .i64 x5_1 ∧ Aside0 (pomaderef02_independent.l0 kq l0 a1 x5_1 = some r) ∧ Aside0 (kq ≤ k) ∧ Drawn0 w w')
  case atStart => exact ⟨(0), (by first | rfl | (simp; done) | (simp [*]; done)), H', ⟨Nat.le_refl _⟩, by repeat (first | exact Drawn0.refl _ | apply Drawn0.step)⟩
  case round =>
    clear H'
    try clear p2
    obtain ⟨x5_1, rfl, HA, HK1, ⟨m1, rfl⟩⟩ := hrel
    cases gk with
    | zero => exact absurd HA.out (by simp [pomaderef02_independent.l0])
    | succ k1 =>
      have H := HA.out
      clear HA
      simp only [pomaderef02_independent.l0] at H
      by_cases c3 : x5_1 < (l0.length : Int)
      · rw [if_pos c3] at H
        have c3b0 : decide (x5_1 < (l0.length : Int)) = true := decide_eq_true c3
        clear c3
        by_cases c4 : 0 ≤ x5_1
        · rw [if_pos c4] at H
          have c4b0 := eq_true c4
          have c4b1 : decide (0 ≤ x5_1) = true := decide_eq_true c4
          clear c4
          obtain ⟨ji5, hji5⟩ : ∃ j_ : Int, (shr .i64 a1 x5_1) = j_ := ⟨_, rfl⟩
          replace H : (if (Int.tmod (ji5) 2) = 1 then (if (Go.bits .and .i64 (rd l0 x5_1) a1) = 0 then (pomaderef02_independent.l0 k1 l0 a1 (wrap64 (x5_1 + 1))) else (some false)) else (pomaderef02_independent.l0 k1 l0 a1 (wrap64 (x5_1 + 1)))) = some r := by first | (rw [hji5] at H; exact H) | (simp only [hji5] at H ⊢; exact H)
          have hji5_ : (a1 / 2 ^ min x5_1.toNat 64) = ji5 := hji5
          have hji5z : x5_1 ≤ 64 → (a1 / 2 ^ x5_1.toNat) = ji5 := shr_small hji5
          by_cases c6 : (Int.tmod (ji5) 2) = 1
          · rw [if_pos c6] at H
            have c6b0 : ((Int.tmod (ji5) 2) == 1) = true := beq_iff_eq.mpr c6
            have c6b1 : ((Int.tmod (ji5) 2) != 1) = false := bne_eq_false_iff_eq.mpr c6
            clear c6
            by_cases c7 : (Go.bits .and .i64 (rd l0 x5_1) a1) = 0
            · rw [if_pos c7] at H
              have c7b0 : ((Go.bits .and .i64 (rd l0 x5_1) a1) == 0) = true := beq_iff_eq.mpr c7
              have c7b1 : ((Go.bits .and .i64 (rd l0 x5_1) a1) != 0) = false := bne_eq_false_iff_eq.mpr c7
              clear c7
              have H' := Aside0.mk H
              clear H
              have p131 : 0 ≤ (x5_1 : Int) := of_decide_eq_true (by first | (with_reducible assumption) | assumption)
              have q131 : x5_1 < (l0.length : Int) := of_decide_eq_true (by first | (with_reducible assumption) | assumption)
              obtain ⟨ad131, e131, hx131_0⟩ := Kd.at_int HR0.out x5_1 p131 q131
              cases e131
              replace p131 := eq_true p131
              replace q131 := eq_true q131
              go_wp2
              go_roundg k1
              case measure => have := HK1.out; omega
              case rel => exact ⟨(wrap64 (x5_1 + 1)), (by first | rfl | (simp; done) | (simp [*]; done)), H', ⟨by have := HK1.out; omega⟩, by repeat (first | exact Drawn0.refl _ | apply Drawn0.step)⟩
            · rw [if_neg c7] at H
              have c7b0 : ((Go.bits .and .i64 (rd l0 x5_1) a1) == 0) = false := beq_eq_false_iff_ne.mpr c7
              have c7b1 : ((Go.bits .and .i64 (rd l0 x5_1) a1) != 0) = true := bne_iff_ne.mpr c7
              obtain rfl := Option.some.inj H
              have p131 : 0 ≤ (x5_1 : Int) := of_decide_eq_true (by first | (with_reducible assumption) | assumption)
              have q131 : x5_1 < (l0.length : Int) := of_decide_eq_true (by first | (with_reducible assumption) | assumption)
              obtain ⟨ad131, e131, hx131_0⟩ := Kd.at_int HR0.out x5_1 p131 q131
              cases e131
              replace p131 := eq_true p131
              replace q131 := eq_true q131
              go_wp2
              go_ret
              exact ⟨by first | rfl | (simp; done) | (simp only [← hji5] <;> (first | rfl | simp)) | (simp [*]; done), by repeat (first | exact Drawn0.refl _ | apply Drawn0.step)⟩
          · rw [if_neg c6] at H
            have c6b0 : ((Int.tmod (ji5) 2) == 1) = false := beq_eq_false_iff_ne.mpr c6
            have c6b1 : ((Int.tmod (ji5) 2) != 1) = true := bne_iff_ne.mpr c6
            have H' := Aside0.mk H
            clear H
            go_wp2
            go_roundg k1
            case measure => have := HK1.out; omega
            case rel => exact ⟨(wrap64 (x5_1 + 1)), (by first | rfl | (simp; done) | (simp [*]; done)), H', ⟨by have := HK1.out; omega⟩, by repeat (first | exact Drawn0.refl _ | apply Drawn0.step)⟩
        · rw [if_neg c4] at H
          exact absurd H (by simp)
      · rw [if_neg c3] at H
        have c3b0 : decide (x5_1 < (l0.length : Int)) = false := decide_eq_false c3
        clear c3
        obtain rfl := Option.some.inj H
        go_wp2
        go_ret
        exact ⟨by first | rfl | (simp; done) | (simp [*]; done), by repeat (first | exact Drawn0.refl _ | apply Drawn0.step)⟩
def pomaderef02_kernel.l0 : Nat → List Int → Int → Int → Int → Option (Bool)
  | 0, _, _, _, _ => none
  | k + 1, x0, x1, x2, x7 => if x7 < (x0.length : Int) then (if 0 ≤ x7 then (if (Int.tmod (shr .i64 (Go.bits .andNot .i64 x1 x2) x7) 2) = 1 then (if (Go.bits .and .i64 (rd x0 x7) x2) = 0 then (some false) else (pomaderef02_kernel.l0 k x0 x1 x2 (wrap64 (x7 + 1)))) else (pomaderef02_kernel.l0 k x0 x1 x2 (wrap64 (x7 + 1)))) else (none)) else ((pomaderef02_independent.f k x0 x2).bind fun t133 => (some t133))
def pomaderef02_kernel.f (k : Nat) (l0 : List Int) (a1 : Int) (a2 : Int) : Option (Bool) := pomaderef02_kernel.l0 k l0 a1 a2 0
theorem pomaderef02_kernel.mono_l : ∀ k, (∀ y0 y1 y2 y3, LeO (pomaderef02_kernel.l0 k y0 y1 y2 y3) (pomaderef02_kernel.l0 (k + 1) y0 y1 y2 y3))
  | 0 => fun _ _ _ _ r h => by simp [pomaderef02_kernel.l0] at h
  | k + 1 => by
    have ih0 := pomaderef02_kernel.mono_l k
    · intro y0 y1 y2 y3
      unfold pomaderef02_kernel.l0
      repeat' first
      | (with_reducible exact ih0 _ _ _ _)
      | (with_reducible exact pomaderef02_independent.mono _ _ _)
      | (with_reducible exact LeO.refl _)
      | (with_reducible exact LeO.none _)
      | (with_reducible refine LeO.ite ?_ ?_)
      | (with_reducible refine LeO.bind ?_ (fun _ => ?_))
      | exact ih0 _ _ _ _
      | exact pomaderef02_independent.mono _ _ _
      | exact LeO.none _
      | refine LeO.ite ?_ ?_
      | refine LeO.bind ?_ (fun _ => ?_)
theorem pomaderef02_kernel.mono : ∀ a0 a1 a2 k, LeO (pomaderef02_kernel.f k a0 a1 a2) (pomaderef02_kernel.f (k + 1) a0 a1 a2) := by
  intro a0 a1 a2 k
  have ih0 := pomaderef02_kernel.mono_l k
  unfold pomaderef02_kernel.f
  repeat' first
      | (with_reducible exact ih0 _ _ _ _)
      | (with_reducible exact pomaderef02_independent.mono _ _ _)
      | (with_reducible exact LeO.refl _)
      | (with_reducible exact LeO.none _)
      | (with_reducible refine LeO.ite ?_ ?_)
      | (with_reducible refine LeO.bind ?_ (fun _ => ?_))
      | exact ih0 _ _ _ _
      | exact pomaderef02_independent.mono _ _ _
      | exact LeO.none _
      | refine LeO.ite ?_ ?_
      | refine LeO.bind ?_ (fun _ => ?_)
set_option maxHeartbeats 8000000 in
set_option maxRecDepth 100000 in
theorem pomaderef02_kernel.calls (k : Nat) (A0 : Option Addr) (c0 : Nat) (l0 : List Int) (a1 : Int) (a2 : Int) (r : Bool) (w : World) (hr0 : Kd.C (Kd.int .i64) w A0 l0.length l0) (hc0 : l0.length ≤ c0) (h : pomaderef02_kernel.f k l0 a1 a2 = some r) :
    Calls Try.prog 71 #[.slice A0 l0.length c0, .int .i64 a1, .int .i64 a2] w fun e w' => e = .returned (.bool r) ∧ Drawn0 w w' := by
  have HR0 := Aside0.mk hr0
  have HC0 := Aside0.mk hc0
  clear hr0 hc0
  have H : (pomaderef02_kernel.l0 k l0 a1 a2 0) = some r := h
  clear h
  have H' := Aside0.mk H
  clear H
  go_enter Try.func71, Try.ntmps71
  go_wp2
  go_loopg [7] k (fun kq v7 w' => ∃ (x7_1 : Int), v7 = .int .i64 x7_1 ∧ Aside0 (pomaderef02_kernel.l0 kq l0 a1 a2 x7_1 = some r) ∧ Aside0 (kq ≤ k) ∧ Drawn0 w w')
  case atStart => exact ⟨(0), (by first | rfl | (simp; done) | (simp [*]; done)), H', ⟨Nat.le_refl _⟩, by repeat (first | exact Drawn0.refl _ | apply Drawn0.step)⟩
  case round =>
    clear H'
    try clear p2
    obtain ⟨x7_1, rfl, HA, HK1, ⟨m1, rfl⟩⟩ := hrel
    cases gk with
    | zero => exact absurd HA.out (by simp [pomaderef02_kernel.l0])
    | succ k1 =>
      have H := HA.out
      clear HA
      simp only [pomaderef02_kernel.l0] at H
      by_cases c4 : x7_1 < (l0.length : Int)
      · rw [if_pos c4] at H
        have c4b0 : decide (x7_1 < (l0.length : Int)) = true := decide_eq_true c4
        clear c4
        by_cases c5 : 0 ≤ x7_1
        · rw [if_pos c5] at H
          have c5b0 := eq_true c5
          have c5b1 : decide (0 ≤ x7_1) = true := decide_eq_true c5
          clear c5
          obtain ⟨ji6, hji6⟩ : ∃ j_ : Int, (shr .i64 (Go.bits .andNot .i64 a1 a2) x7_1) = j_ := ⟨_, rfl⟩
          replace H : (if (Int.tmod (ji6) 2) = 1 then (if (Go.bits .and .i64 (rd l0 x7_1) a2) = 0 then (some false) else (pomaderef02_kernel.l0 k1 l0 a1 a2 (wrap64 (x7_1 + 1)))) else (pomaderef02_kernel.l0 k1 l0 a1 a2 (wrap64 (x7_1 + 1)))) = some r := by first | (rw [hji6] at H; exact H) | (simp only [hji6] at H ⊢; exact H)
          have hji6_ : ((Go.bits .andNot .i64 a1 a2) / 2 ^ min x7_1.toNat 64) = ji6 := hji6
          have hji6z : x7_1 ≤ 64 → ((Go.bits .andNot .i64 a1 a2) / 2 ^ x7_1.toNat) = ji6 := shr_small hji6
          by_cases c7 : (Int.tmod (ji6) 2) = 1
          · rw [if_pos c7] at H
            have c7b0 : ((Int.tmod (ji6) 2) == 1) = true := beq_iff_eq.mpr c7
            have c7b1 : ((Int.tmod (ji6) 2) != 1) = false := bne_eq_false_iff_eq.mpr c7
            clear c7
            by_cases c8 : (Go.bits .and .i64 (rd l0 x7_1) a2) = 0
            · rw [if_pos c8] at H
              have c8b0 : ((Go.bits .and .i64 (rd l0 x7_1) a2) == 0) = true := beq_iff_eq.mpr c8
              have c8b1 : ((Go.bits .and .i64 (rd l0 x7_1) a2) != 0) = false := bne_eq_false_iff_eq.mpr c8
              clear c8
              obtain rfl := Option.some.inj H
              have p132 : 0 ≤ (x7_1 : Int) := of_decide_eq_true (by first | (with_reducible assumption) | assumption)
              have q132 : x7_1 < (l0.length : Int) := of_decide_eq_true (by first | (with_reducible assumption) | assumption)
              obtain ⟨ad132, e132, hx132_0⟩ := Kd.at_int HR0.out x7_1 p132 q132
              cases e132
              replace p132 := eq_true p132
              replace q132 := eq_true q132
              go_wp2
              go_ret
              exact ⟨by first | rfl | (simp; done) | (simp only [← hji6] <;> (first | rfl | simp)) | (simp [*]; done), by repeat (first | exact Drawn0.refl _ | apply Drawn0.step)⟩
            · rw [if_neg c8] at H
              have c8b0 : ((Go.bits .and .i64 (rd l0 x7_1) a2) == 0) = false := beq_eq_false_iff_ne.mpr c8
              have c8b1 : ((Go.bits .and .i64 (rd l0 x7_1) a2) != 0) = true := bne_iff_ne.mpr c8
              have H' := Aside0.mk H
              clear H
              have p132 : 0 ≤ (x7_1 : Int) := of_decide_eq_true (by first | (with_reducible assumption) | assumption)
              have q132 : x7_1 < (l0.length : Int) := of_decide_eq_true (by first | (with_reducible assumption) | assumption)
              obtain ⟨ad132, e132, hx132_0⟩ := Kd.at_int HR0.out x7_1 p132 q132
              cases e132
              replace p132 := eq_true p132
              replace q132 := eq_true q132
              go_wp2
              go_roundg k1
              case measure => have := HK1.out; omega
              case rel => exact ⟨(wrap64 (x7_1 + 1)), (by first | rfl | (simp; done) | (simp [*]; done)), H', ⟨by have := HK1.out; omega⟩, by repeat (first | exact Drawn0.refl _ | apply Drawn0.step)⟩
          · rw [if_neg c7] at H
            have c7b0 : ((Int.tmod (ji6) 2) == 1) = false := beq_eq_false_iff_ne.mpr c7
            have c7b1 : ((Int.tmod (ji6) 2) != 1) = true := bne_iff_ne.mpr c7
            have H' := Aside0.mk H
            clear H
            go_wp2
            go_roundg k1
            case measure => have := HK1.out; omega
            case rel => exact ⟨(wrap64 (x7_1 + 1)), (by first | rfl | (simp; done) | (simp [*]; done)), H', ⟨by have := HK1.out; omega⟩, by repeat (first | exact Drawn0.refl _ | apply Drawn0.step)⟩
        · rw [if_neg c5] at H
          exact absurd H (by simp)
      · rw [if_neg c4] at H
        have c4b0 : decide (x7_1 < (l0.length : Int)) = false := decide_eq_false c4
        clear c4
        replace H := Option.bind_eq_some_iff.mp H
        obtain ⟨t133, A90, H⟩ := H
        replace H : (some t133) = some r := H
        have A9 := Aside0.mk A90
        clear A90
        obtain rfl := Option.some.inj H
        go_wp2_with (first | ((with_reducible refine gate_callee (f := 88) rfl ?_); refine goesL_ (some 32) rfl rfl Try.func88 (by kernel_rfl) rfl #[.slice A0 l0.length c0, .int .i64 a2] rfl (by (try simp only [List.map_toArray, List.map_cons, List.map_nil]); first | done | rfl | (simp only [List.length_drop, List.length_take]; rfl)) ?_; (with_reducible refine (pomaderef02_independent.calls k1 _ _ l0 a2 t133 _ ?side1 ?side2 A9.out).mono ?_); (case side1 => repeat (first | exact HR0.out | (with_reducible refine Kd.C_alloc ?_ _) | (with_reducible refine Kd.C_drewN ?_ _) | (with_reducible refine Kd.C_drew ?_))); (case side2 => exact HC0.out); rintro e w' ⟨rfl, ⟨nd, rfl⟩⟩; refine ⟨_, rfl, ?_⟩))
        go_ret
        exact ⟨by first | rfl | (simp; done) | (simp [*]; done), by repeat (first | exact Drawn0.refl _ | apply Drawn0.step)⟩
def pomaderef02_Is.f (k : Nat) (a0 : Int) (l1 : List (S43)) (l2 : List Int) : Option (Bool × Int) := (pomaderef02_Town.f k a0 l1).bind fun bt134 => (if bt134.2 = 0 then ((pomaderef02_Set.f k a0 l2).bind fun bt138 => (if bt138.2 = true then (if 0 ≤ a0 then ((pomaderef02_kernel.f k bt134.1 (wrap64 ((shl .i64 1 a0) - 1)) bt138.1).bind fun t140 => (some (t140, 0))) else (none)) else (some (false, 0)))) else (some (false, bt134.2)))
theorem pomaderef02_Is.mono : ∀ a0 a1 a2 k, LeO (pomaderef02_Is.f k a0 a1 a2) (pomaderef02_Is.f (k + 1) a0 a1 a2) := by
  intro a0 a1 a2 k
  unfold pomaderef02_Is.f
  repeat' first
      | (with_reducible exact pomaderef02_Set.mono _ _ _)
      | (with_reducible exact pomaderef02_Town.mono _ _ _)
      | (with_reducible exact pomaderef02_kernel.mono _ _ _ _)
      | (with_reducible exact LeO.refl _)
      | (with_reducible exact LeO.none _)
      | (with_reducible refine LeO.ite ?_ ?_)
      | (with_reducible refine LeO.bind ?_ (fun _ => ?_))
      | exact pomaderef02_Set.mono _ _ _
      | exact pomaderef02_Town.mono _ _ _
      | exact pomaderef02_kernel.mono _ _ _ _
      | exact LeO.none _
      | refine LeO.ite ?_ ?_
      | refine LeO.bind ?_ (fun _ => ?_)
set_option maxHeartbeats 8000000 in
set_option maxRecDepth 100000 in
theorem pomaderef02_Is.calls (k : Nat) (a0 : Int) (A1 : Option Addr) (c1 : Nat) (l1 : List (S43)) (A2 : Option Addr) (c2 : Nat) (l2 : List Int) (r1 : Bool) (r2 : Int) (w : World) (hr1 : Kd.C k43 w A1 l1.length l1) (hc1 : l1.length ≤ c1) (hr2 : Kd.C (Kd.int .i64) w A2 l2.length l2) (hc2 : l2.length ≤ c2) (h : pomaderef02_Is.f k a0 l1 l2 = some (r1, r2)) :
    Calls Try.prog 33 #[.int .i64 a0, .slice A1 l1.length c1, .slice A2 l2.length c2] w fun e w' => e = .returned (.tuple #[.bool r1, .int .i64 r2]) ∧ Below w.heap.size w w' := by
  have HR1 := Aside0.mk hr1
  have HC1 := Aside0.mk hc1
  clear hr1 hc1
  have HR2 := Aside0.mk hr2
  have HC2 := Aside0.mk hc2
  clear hr2 hc2
  have HB := Aside0.mk (Below.refl w.heap.size w)
  have H : ((pomaderef02_Town.f k a0 l1).bind fun bt134 => (if bt134.2 = 0 then ((pomaderef02_Set.f k a0 l2).bind fun bt138 => (if bt138.2 = true then (if 0 ≤ a0 then ((pomaderef02_kernel.f k bt134.1 (wrap64 ((shl .i64 1 a0) - 1)) bt138.1).bind fun t140 => (some (t140, 0))) else (none)) else (some (false, 0)))) else (some (false, bt134.2)))) = some (r1, r2) := h
  clear h
  replace H := Option.bind_eq_some_iff.mp H
  obtain ⟨⟨t134, t135⟩, A40, H⟩ := H
  replace H : (if t135 = 0 then ((pomaderef02_Set.f k a0 l2).bind fun bt138 => (if bt138.2 = true then (if 0 ≤ a0 then ((pomaderef02_kernel.f k t134 (wrap64 ((shl .i64 1 a0) - 1)) bt138.1).bind fun t140 => (some (t140, 0))) else (none)) else (some (false, 0)))) else (some (false, t135))) = some (r1, r2) := H
  have A4 := Aside0.mk A40
  clear A40
  by_cases c5 : t135 = 0
  · rw [if_pos c5] at H
    have c5b0 : (t135 == 0) = true := beq_iff_eq.mpr c5
    have c5b1 : (t135 != 0) = false := bne_eq_false_iff_eq.mpr c5
    clear c5
    replace H := Option.bind_eq_some_iff.mp H
    obtain ⟨⟨t138, t139⟩, A60, H⟩ := H
    replace H : (if t139 = true then (if 0 ≤ a0 then ((pomaderef02_kernel.f k t134 (wrap64 ((shl .i64 1 a0) - 1)) t138).bind fun t140 => (some (t140, 0))) else (none)) else (some (false, 0))) = some (r1, r2) := H
    have A6 := Aside0.mk A60
    clear A60
    by_cases c7 : t139 = true
    · subst c7
      have H1 : (if 0 ≤ a0 then ((pomaderef02_kernel.f k t134 (wrap64 ((shl .i64 1 a0) - 1)) t138).bind fun t140 => (some (t140, 0))) else (none)) = some (r1, r2) := by rw [if_pos rfl] at H; exact H
      clear H
      have H := H1
      clear H1
      by_cases c8 : 0 ≤ a0
      · rw [if_pos c8] at H
        have c8b0 := eq_true c8
        have c8b1 : decide (0 ≤ a0) = true := decide_eq_true c8
        clear c8
        obtain ⟨ji9, hji9⟩ : ∃ j_ : Int, (shl .i64 1 a0) = j_ := ⟨_, rfl⟩
        replace H : ((pomaderef02_kernel.f k t134 (wrap64 ((ji9) - 1)) t138).bind fun t140 => (some (t140, 0))) = some (r1, r2) := by first | (rw [hji9] at H; exact H) | (simp only [hji9] at H ⊢; exact H)
        (try rw [hji9] at A4)
        (try rw [hji9] at A6)
        have hji9_ : (IntKind.i64.wrap (1 * 2 ^ min a0.toNat 64)) = ji9 := hji9
        have hji9z : a0 ≤ 64 → (IntKind.i64.wrap (1 * 2 ^ a0.toNat)) = ji9 := shl_small hji9
        have hji9u : (IntKind.i64.wrap (2 ^ min a0.toNat 64)) = ji9 := by have h_ := hji9_; rw [Int.one_mul] at h_; exact h_
        have hji9v : a0 ≤ 64 → (IntKind.i64.wrap (2 ^ a0.toNat)) = ji9 := fun hle_ => by have h_ := hji9z hle_; rw [Int.one_mul] at h_; exact h_
        have hji9y : (wrap64 (1 * 2 ^ min a0.toNat 64)) = ji9 := (i64_w _).symm.trans hji9_
        have hji9x : a0 ≤ 64 → (wrap64 (1 * 2 ^ a0.toNat)) = ji9 := fun h_ => (i64_w _).symm.trans (hji9z h_)
        replace H := Option.bind_eq_some_iff.mp H
        obtain ⟨t140, A100, H⟩ := H
        replace H : (some (t140, 0)) = some (r1, r2) := H
        have A10 := Aside0.mk A100
        clear A100
        simp only [Option.some.injEq, Prod.mk.injEq] at H
        obtain ⟨rfl, rfl⟩ := H
        go_enter Try.func33, Try.ntmps33
        go_wp2_with (first | ((with_reducible refine gate_callee (f := 50) rfl ?_); refine goesL_ (some 15) rfl rfl Try.func50 (by kernel_rfl) rfl #[.int .i64 a0, .slice A1 l1.length c1] rfl (by (try simp only [List.map_toArray, List.map_cons, List.map_nil]); first | done | rfl | (simp only [List.length_drop, List.length_take]; rfl)) ?_; (with_reducible refine (pomaderef02_Town.calls k a0 _ _ l1 t134 t135 _ ?side1 ?side2 A4.out).mono ?_); (case side1 => repeat (first | exact HR1.out | (with_reducible refine Kd.C_alloc ?_ _) | (with_reducible refine Kd.C_drewN ?_ _) | (with_reducible refine Kd.C_drew ?_))); (case side2 => exact HC1.out); rintro e w11 ⟨v136, rfl, ho0, hb⟩; refine ⟨_, rfl, ?_⟩; have n0_ := Aside0.mk (Kd.R_lower ho0 (below_size (by repeat (first | (with_reducible first | exact HB.out | apply below_alloc | apply pw_below_drewN | apply below_drew1) | exact HB.out)))); have n1_ := Aside0.mk (below_step (by repeat (first | (with_reducible first | exact HB.out | apply below_alloc | apply pw_below_drewN | apply below_drew1) | exact HB.out)) hb); clear HB; have HO137 := n0_; have HB := n1_; clear n0_ n1_; (try clear hb); (try clear hb2); (try clear hk); (try clear hi); (try clear ho0)) | ((with_reducible refine gate_callee (f := 69) rfl ?_); refine goesL_ (some 24) rfl rfl Try.func69 (by kernel_rfl) rfl #[.int .i64 a0, .slice A2 l2.length c2] rfl (by (try simp only [List.map_toArray, List.map_cons, List.map_nil]); first | done | rfl | (simp only [List.length_drop, List.length_take]; rfl)) ?_; (with_reducible refine (pomaderef02_Set.calls k a0 _ _ l2 t138 true _ ?side1 ?side2 A6.out).mono ?_); (case side1 => repeat (first | exact (Kd.C_below HR2.out HB.out) | (with_reducible refine Kd.C_alloc ?_ _) | (with_reducible refine Kd.C_drewN ?_ _) | (with_reducible refine Kd.C_drew ?_))); (case side2 => exact HC2.out); rintro e w' ⟨rfl, ⟨nd, rfl⟩⟩; refine ⟨_, rfl, ?_⟩; obtain ⟨Ao12, co12, eo12⟩ := Kd.R_slice HO137.out; subst eo12) | (go_at_call 71; (with_reducible refine (pomaderef02_kernel.calls k _ _ t134 (wrap64 ((ji9) - 1)) t138 t140 _ ?side1 ?side2 A10.out).mono ?_); (case side1 => repeat (first | exact (Kd.R_reads' HO137.out).2.2 | (with_reducible refine Kd.C_alloc ?_ _) | (with_reducible refine Kd.C_drewN ?_ _) | (with_reducible refine Kd.C_drew ?_))); (case side2 => exact (Kd.R_reads' HO137.out).2.1); rintro e w' ⟨rfl, ⟨nd, rfl⟩⟩))
        go_ret2
        exact ⟨by first | rfl | (simp [errW_none, errW_some] <;> rfl) | (simp only [← hji9]; first | rfl | (simp [errW_none, errW_some] <;> rfl)) | (simp [*, errW_none, errW_some] <;> rfl), by repeat (first | (with_reducible first | exact HB.out | apply below_alloc | apply pw_below_drewN | apply below_drew1) | exact HB.out)⟩
      · rw [if_neg c8] at H
        exact absurd H (by simp)
    · replace c7 := Bool.eq_false_iff.mpr c7
      subst c7
      have H1 : (some (false, 0)) = some (r1, r2) := by rw [if_neg (show ¬ (false = true) by decide)] at H; exact H
      clear H
      have H := H1
      clear H1
      simp only [Option.some.injEq, Prod.mk.injEq] at H
      obtain ⟨rfl, rfl⟩ := H
      go_enter Try.func33, Try.ntmps33
      go_wp2_with (first | ((with_reducible refine gate_callee (f := 50) rfl ?_); refine goesL_ (some 15) rfl rfl Try.func50 (by kernel_rfl) rfl #[.int .i64 a0, .slice A1 l1.length c1] rfl (by (try simp only [List.map_toArray, List.map_cons, List.map_nil]); first | done | rfl | (simp only [List.length_drop, List.length_take]; rfl)) ?_; (with_reducible refine (pomaderef02_Town.calls k a0 _ _ l1 t134 t135 _ ?side1 ?side2 A4.out).mono ?_); (case side1 => repeat (first | exact HR1.out | (with_reducible refine Kd.C_alloc ?_ _) | (with_reducible refine Kd.C_drewN ?_ _) | (with_reducible refine Kd.C_drew ?_))); (case side2 => exact HC1.out); rintro e w13 ⟨v136, rfl, ho0, hb⟩; refine ⟨_, rfl, ?_⟩; have n0_ := Aside0.mk (Kd.R_lower ho0 (below_size (by repeat (first | (with_reducible first | exact HB.out | apply below_alloc | apply pw_below_drewN | apply below_drew1) | exact HB.out)))); have n1_ := Aside0.mk (below_step (by repeat (first | (with_reducible first | exact HB.out | apply below_alloc | apply pw_below_drewN | apply below_drew1) | exact HB.out)) hb); clear HB; have HO137 := n0_; have HB := n1_; clear n0_ n1_; (try clear hb); (try clear hb2); (try clear hk); (try clear hi); (try clear ho0)) | ((with_reducible refine gate_callee (f := 69) rfl ?_); refine goesL_ (some 24) rfl rfl Try.func69 (by kernel_rfl) rfl #[.int .i64 a0, .slice A2 l2.length c2] rfl (by (try simp only [List.map_toArray, List.map_cons, List.map_nil]); first | done | rfl | (simp only [List.length_drop, List.length_take]; rfl)) ?_; (with_reducible refine (pomaderef02_Set.calls k a0 _ _ l2 t138 false _ ?side1 ?side2 A6.out).mono ?_); (case side1 => repeat (first | exact (Kd.C_below HR2.out HB.out) | (with_reducible refine Kd.C_alloc ?_ _) | (with_reducible refine Kd.C_drewN ?_ _) | (with_reducible refine Kd.C_drew ?_))); (case side2 => exact HC2.out); rintro e w' ⟨rfl, ⟨nd, rfl⟩⟩; refine ⟨_, rfl, ?_⟩))
      go_ret2
      exact ⟨by first | rfl | (simp [errW_none, errW_some] <;> rfl) | (simp [*, errW_none, errW_some] <;> rfl), by repeat (first | (with_reducible first | exact HB.out | apply below_alloc | apply pw_below_drewN | apply below_drew1) | exact HB.out)⟩
  · rw [if_neg c5] at H
    have c5b0 : (t135 == 0) = false := beq_eq_false_iff_ne.mpr c5
    have c5b1 : (t135 != 0) = true := bne_iff_ne.mpr c5
    simp only [Option.some.injEq, Prod.mk.injEq] at H
    obtain ⟨rfl, rfl⟩ := H
    go_enter Try.func33, Try.ntmps33
    go_wp2_with (first | ((with_reducible refine gate_callee (f := 50) rfl ?_); refine goesL_ (some 15) rfl rfl Try.func50 (by kernel_rfl) rfl #[.int .i64 a0, .slice A1 l1.length c1] rfl (by (try simp only [List.map_toArray, List.map_cons, List.map_nil]); first | done | rfl | (simp only [List.length_drop, List.length_take]; rfl)) ?_; (with_reducible refine (pomaderef02_Town.calls k a0 _ _ l1 t134 t135 _ ?side1 ?side2 A4.out).mono ?_); (case side1 => repeat (first | exact HR1.out | (with_reducible refine Kd.C_alloc ?_ _) | (with_reducible refine Kd.C_drewN ?_ _) | (with_reducible refine Kd.C_drew ?_))); (case side2 => exact HC1.out); rintro e w14 ⟨v136, rfl, ho0, hb⟩; refine ⟨_, rfl, ?_⟩; have n0_ := Aside0.mk (Kd.R_lower ho0 (below_size (by repeat (first | (with_reducible first | exact HB.out | apply below_alloc | apply pw_below_drewN | apply below_drew1) | exact HB.out)))); have n1_ := Aside0.mk (below_step (by repeat (first | (with_reducible first | exact HB.out | apply below_alloc | apply pw_below_drewN | apply below_drew1) | exact HB.out)) hb); clear HB; have HO137 := n0_; have HB := n1_; clear n0_ n1_; (try clear hb); (try clear hb2); (try clear hk); (try clear hi); (try clear ho0)))
    go_ret2
    exact ⟨by first | rfl | (simp [errW_none, errW_some] <;> rfl) | (simp [*, errW_none, errW_some] <;> rfl), by repeat (first | (with_reducible first | exact HB.out | apply below_alloc | apply pw_below_drewN | apply below_drew1) | exact HB.out)⟩
mutual
def pomaderef01_Less.l0 : Nat → List Int → List Int → Int → Option (Bool)
  | 0, _, _, _ => none
  | k + 1, x0, x1, x5 => if x5 < (x0.length : Int) then (pomaderef01_Less.j1 k x0 x1 x5 (decide (x5 < (x1.length : Int)))) else (pomaderef01_Less.j1 k x0 x1 x5 false)
def pomaderef01_Less.j1 : Nat → List Int → List Int → Int → Bool → Option (Bool)
  | 0, _, _, _, _ => none
  | k + 1, x0, x1, x5, x15 => if x15 = true then (if 0 ≤ x5 then (if x5 < (x0.length : Int) then (if x5 < (x1.length : Int) then (if (rd x0 x5) = (rd x1 x5) then (pomaderef01_Less.l0 k x0 x1 (wrap64 (x5 + 1))) else (some (decide ((rd x0 x5) < (rd x1 x5))))) else (none)) else (none)) else (none)) else (some (decide ((x0.length : Int) < (x1.length : Int))))
end
def pomaderef01_Less.f (k : Nat) (l0 : List Int) (l1 : List Int) : Option (Bool) := pomaderef01_Less.l0 k l0 l1 0
theorem pomaderef01_Less.mono_l : ∀ k, (∀ y0 y1 y2, LeO (pomaderef01_Less.l0 k y0 y1 y2) (pomaderef01_Less.l0 (k + 1) y0 y1 y2)) ∧ (∀ y0 y1 y2 y3, LeO (pomaderef01_Less.j1 k y0 y1 y2 y3) (pomaderef01_Less.j1 (k + 1) y0 y1 y2 y3))
  | 0 => ⟨fun _ _ _ r h => by simp [pomaderef01_Less.l0] at h, fun _ _ _ _ r h => by simp [pomaderef01_Less.j1] at h⟩
  | k + 1 => by
    obtain ⟨ih0, ih1⟩ := pomaderef01_Less.mono_l k
    refine ⟨?_, ?_⟩
    · intro y0 y1 y2
      unfold pomaderef01_Less.l0
      repeat' first
      | (with_reducible exact ih0 _ _ _)
      | (with_reducible exact ih1 _ _ _ _)
      | (with_reducible exact LeO.refl _)
      | (with_reducible exact LeO.none _)
      | (with_reducible refine LeO.ite ?_ ?_)
      | (with_reducible refine LeO.bind ?_ (fun _ => ?_))
      | exact ih0 _ _ _
      | exact ih1 _ _ _ _
      | exact LeO.none _
      | refine LeO.ite ?_ ?_
      | refine LeO.bind ?_ (fun _ => ?_)
    · intro y0 y1 y2 y3
      unfold pomaderef01_Less.j1
      repeat' first
      | (with_reducible exact ih0 _ _ _)
      | (with_reducible exact ih1 _ _ _ _)
      | (with_reducible exact LeO.refl _)
      | (with_reducible exact LeO.none _)
      | (with_reducible refine LeO.ite ?_ ?_)
      | (with_reducible refine LeO.bind ?_ (fun _ => ?_))
      | exact ih0 _ _ _
      | exact ih1 _ _ _ _
      | exact LeO.none _
      | refine LeO.ite ?_ ?_
      | refine LeO.bind ?_ (fun _ => ?_)
theorem pomaderef01_Less.mono : ∀ a0 a1 k, LeO (pomaderef01_Less.f k a0 a1) (pomaderef01_Less.f (k + 1) a0 a1) := by
  intro a0 a1 k
  obtain ⟨ih0, ih1⟩ := pomaderef01_Less.mono_l k
  unfold pomaderef01_Less.f
  repeat' first
      | (with_reducible exact ih0 _ _ _)
      | (with_reducible exact ih1 _ _ _ _)
      | (with_reducible exact LeO.refl _)
      | (with_reducible exact LeO.none _)
      | (with_reducible refine LeO.ite ?_ ?_)
      | (with_reducible refine LeO.bind ?_ (fun _ => ?_))
      | exact ih0 _ _ _
      | exact ih1 _ _ _ _
      | exact LeO.none _
      | refine LeO.ite ?_ ?_
      | refine LeO.bind ?_ (fun _ => ?_)
set_option maxHeartbeats 8000000 in
set_option maxRecDepth 100000 in
theorem pomaderef01_Less.calls (k : Nat) (A0 : Option Addr) (c0 : Nat) (l0 : List Int) (A1 : Option Addr) (c1 : Nat) (l1 : List Int) (r : Bool) (w : World) (hr0 : Kd.C (Kd.int .i64) w A0 l0.length l0) (hc0 : l0.length ≤ c0) (hr1 : Kd.C (Kd.int .i64) w A1 l1.length l1) (hc1 : l1.length ≤ c1) (h : pomaderef01_Less.f k l0 l1 = some r) :
    Calls Try.prog 36 #[.slice A0 l0.length c0, .slice A1 l1.length c1] w fun e w' => e = .returned (.bool r) ∧ Drawn0 w w' := by
  have HR0 := Aside0.mk hr0
  have HC0 := Aside0.mk hc0
  clear hr0 hc0
  have HR1 := Aside0.mk hr1
  have HC1 := Aside0.mk hc1
  clear hr1 hc1
  have H : (pomaderef01_Less.l0 k l0 l1 0) = some r := h
  clear h
  have H' := Aside0.mk H
  clear H
  go_enter Try.func36, Try.ntmps36
  go_wp2
  repeat (go_quiet (fail); try go_wp2)
  go_loopg [5] k (fun kq v5 w' => ∃ (x5_1 : Int), v5 = .int .i64 x5_1 ∧ Aside0 (pomaderef01_Less.l0 kq l0 l1 x5_1 = some r) ∧ Aside0 (kq ≤ k) ∧ Drawn0 w w')
  case atStart => exact ⟨(0), (by first | rfl | (simp; done) | (simp [*]; done)), H', ⟨Nat.le_refl _⟩, by repeat (first | exact Drawn0.refl _ | apply Drawn0.step)⟩
  case round =>
    clear H'
    try clear c1
    try clear p2
    obtain ⟨x5_1, rfl, HA, HK1, ⟨m1, rfl⟩⟩ := hrel
    cases gk with
    | zero => exact absurd HA.out (by simp [pomaderef01_Less.l0])
    | succ k1 =>
      have H := HA.out
      clear HA
      simp only [pomaderef01_Less.l0] at H
      have HC3 := Aside0.mk H
      clear H
      go_upto_region 2 with (fail)
      repeat (go_quiet (fail); go_upto_region 2 with (fail))
      go_cut [15] (fun v15 wc => ∃ (kq : Nat) (x15_2 : Bool), v15 = .bool x15_2 ∧ Aside0 (pomaderef01_Less.j1 kq l0 l1 x5_1 x15_2 = some r) ∧ Aside0 (kq ≤ k1) ∧ Drawn0 w wc)
      case first =>
        have H := HC3.out
        clear HC3
        by_cases c4 : x5_1 < (l0.length : Int)
        · rw [if_pos c4] at H
          have c4b0 : decide (x5_1 < (l0.length : Int)) = true := decide_eq_true c4
          clear c4
          (first | rw [c4b0] | (simp only [i64_w, i32_w]; rw [c4b0]) | skip)
          have H' := Aside0.mk H
          clear H
          go_wp2
          repeat (go_quiet (fail); try go_wp2)
          go_meet
          case rel => exact ⟨_, (decide (x5_1 < (l1.length : Int))), (by first | rfl | (simp; done) | (simp [*]; done)), H', ⟨by have := HK1.out; first | omega | exact Nat.le_refl _⟩, by repeat (first | exact Drawn0.refl _ | apply Drawn0.step)⟩
        · rw [if_neg c4] at H
          have c4b0 : decide (x5_1 < (l0.length : Int)) = false := decide_eq_false c4
          clear c4
          (first | rw [c4b0] | (simp only [i64_w, i32_w]; rw [c4b0]) | skip)
          have H' := Aside0.mk H
          clear H
          go_wp2
          repeat (go_quiet (fail); try go_wp2)
          go_meet
          case rel => exact ⟨_, (false), (by first | rfl | (simp; done) | (simp [*]; done)), H', ⟨by have := HK1.out; first | omega | exact Nat.le_refl _⟩, by repeat (first | exact Drawn0.refl _ | apply Drawn0.step)⟩
      case rest =>
        clear HC3
        try clear c1
        try clear p2
        try clear c3
        try clear c4
        try clear c4b0
        try clear p2
        obtain ⟨kq, x15_2, rfl, HA, HJ2, ⟨mc2, rfl⟩⟩ := hcut
        cases kq with
        | zero => exact absurd HA.out (by simp [pomaderef01_Less.j1])
        | succ kj2 =>
          have H := HA.out
          clear HA
          simp only [pomaderef01_Less.j1] at H
          by_cases c5 : x15_2 = true
          · subst c5
            have H1 : (if 0 ≤ x5_1 then (if x5_1 < (l0.length : Int) then (if x5_1 < (l1.length : Int) then (if (rd l0 x5_1) = (rd l1 x5_1) then (pomaderef01_Less.l0 kj2 l0 l1 (wrap64 (x5_1 + 1))) else (some (decide ((rd l0 x5_1) < (rd l1 x5_1))))) else (none)) else (none)) else (none)) = some r := by rw [if_pos rfl] at H; exact H
            clear H
            have H := H1
            clear H1
            by_cases c6 : 0 ≤ x5_1
            · rw [if_pos c6] at H
              have c6b0 : decide (0 ≤ x5_1) = true := decide_eq_true c6
              clear c6
              by_cases c7 : x5_1 < (l0.length : Int)
              · rw [if_pos c7] at H
                have c7b0 : decide (x5_1 < (l0.length : Int)) = true := decide_eq_true c7
                clear c7
                by_cases c8 : x5_1 < (l1.length : Int)
                · rw [if_pos c8] at H
                  have c8b0 : decide (x5_1 < (l1.length : Int)) = true := decide_eq_true c8
                  clear c8
                  by_cases c9 : (rd l0 x5_1) = (rd l1 x5_1)
                  · rw [if_pos c9] at H
                    have c9b0 : ((rd l0 x5_1) == (rd l1 x5_1)) = true := beq_iff_eq.mpr c9
                    have c9b1 : ((rd l0 x5_1) != (rd l1 x5_1)) = false := bne_eq_false_iff_eq.mpr c9
                    clear c9
                    have H' := Aside0.mk H
                    clear H
                    have p141 : 0 ≤ (x5_1 : Int) := of_decide_eq_true (by first | (with_reducible assumption) | assumption)
                    have q141 : x5_1 < (l0.length : Int) := of_decide_eq_true (by first | (with_reducible assumption) | assumption)
                    obtain ⟨ad141, e141, hx141_0⟩ := Kd.at_int HR0.out x5_1 p141 q141
                    cases e141
                    replace p141 := eq_true p141
                    replace q141 := eq_true q141
                    have p142 : 0 ≤ (x5_1 : Int) := of_decide_eq_true (by first | (with_reducible assumption) | assumption)
                    have q142 : x5_1 < (l1.length : Int) := of_decide_eq_true (by first | (with_reducible assumption) | assumption)
                    obtain ⟨ad142, e142, hx142_0⟩ := Kd.at_int HR1.out x5_1 p142 q142
                    cases e142
                    replace p142 := eq_true p142
                    replace q142 := eq_true q142
                    go_wp2
                    repeat (go_quiet (fail); try go_wp2)
                    go_roundg kj2
                    case measure => have := HK1.out; have := HJ2.out; omega
                    case rel => exact ⟨(wrap64 (x5_1 + 1)), (by first | rfl | (simp; done) | (simp [*]; done)), H', ⟨by have := HK1.out; have := HJ2.out; omega⟩, by repeat (first | exact Drawn0.refl _ | apply Drawn0.step)⟩
                  · rw [if_neg c9] at H
                    have c9b0 : ((rd l0 x5_1) == (rd l1 x5_1)) = false := beq_eq_false_iff_ne.mpr c9
                    have c9b1 : ((rd l0 x5_1) != (rd l1 x5_1)) = true := bne_iff_ne.mpr c9
                    obtain rfl := Option.some.inj H
                    have p141 : 0 ≤ (x5_1 : Int) := of_decide_eq_true (by first | (with_reducible assumption) | assumption)
                    have q141 : x5_1 < (l0.length : Int) := of_decide_eq_true (by first | (with_reducible assumption) | assumption)
                    obtain ⟨ad141, e141, hx141_0⟩ := Kd.at_int HR0.out x5_1 p141 q141
                    cases e141
                    replace p141 := eq_true p141
                    replace q141 := eq_true q141
                    have p142 : 0 ≤ (x5_1 : Int) := of_decide_eq_true (by first | (with_reducible assumption) | assumption)
                    have q142 : x5_1 < (l1.length : Int) := of_decide_eq_true (by first | (with_reducible assumption) | assumption)
                    obtain ⟨ad142, e142, hx142_0⟩ := Kd.at_int HR1.out x5_1 p142 q142
                    cases e142
                    replace p142 := eq_true p142
                    replace q142 := eq_true q142
                    have p143 : 0 ≤ (x5_1 : Int) := of_decide_eq_true (by first | (with_reducible assumption) | assumption)
                    have q143 : x5_1 < (l0.length : Int) := of_decide_eq_true (by first | (with_reducible assumption) | assumption)
                    obtain ⟨ad143, e143, hx143_0⟩ := Kd.at_int HR0.out x5_1 p143 q143
                    obtain rfl : ad141 = ad143 := (by injection e143)
                    replace p143 := eq_true p143
                    replace q143 := eq_true q143
                    have p144 : 0 ≤ (x5_1 : Int) := of_decide_eq_true (by first | (with_reducible assumption) | assumption)
                    have q144 : x5_1 < (l1.length : Int) := of_decide_eq_true (by first | (with_reducible assumption) | assumption)
                    obtain ⟨ad144, e144, hx144_0⟩ := Kd.at_int HR1.out x5_1 p144 q144
                    obtain rfl : ad142 = ad144 := (by injection e144)
                    replace p144 := eq_true p144
                    replace q144 := eq_true q144
                    go_wp2
                    repeat (go_quiet (fail); try go_wp2)
                    go_ret
                    exact ⟨by first | rfl | (simp; done) | (simp [*]; done), by repeat (first | exact Drawn0.refl _ | apply Drawn0.step)⟩
                · rw [if_neg c8] at H
                  exact absurd H (by simp)
              · rw [if_neg c7] at H
                exact absurd H (by simp)
            · rw [if_neg c6] at H
              exact absurd H (by simp)
          · replace c5 := Bool.eq_false_iff.mpr c5
            subst c5
            have H1 : (some (decide ((l0.length : Int) < (l1.length : Int)))) = some r := by rw [if_neg (show ¬ (false = true) by decide)] at H; exact H
            clear H
            have H := H1
            clear H1
            obtain rfl := Option.some.inj H
            go_wp2
            repeat (go_quiet (fail); try go_wp2)
            go_ret
            exact ⟨by first | rfl | (simp; done) | (simp [*]; done), by repeat (first | exact Drawn0.refl _ | apply Drawn0.step)⟩
def pomaderef01_Members.l0 : Nat → Int → List Int → Int → Option (List Int)
  | 0, _, _, _ => none
  | k + 1, x0, x3, x4 => if x4 < 30 then (if 0 ≤ x4 then (if (Int.tmod (shr .i64 x0 x4) 2) = 1 then (if x3.length < 17592186044416 then (pomaderef01_Members.l0 k x0 (x3 ++ [x4]) (wrap64 (x4 + 1))) else (none)) else (pomaderef01_Members.l0 k x0 x3 (wrap64 (x4 + 1)))) else (none)) else (some x3)
def pomaderef01_Members.f (k : Nat) (a0 : Int) : Option (List Int) := pomaderef01_Members.l0 k a0 ([] : List Int) 0
theorem pomaderef01_Members.mono_l : ∀ k, (∀ y0 y1 y2, LeO (pomaderef01_Members.l0 k y0 y1 y2) (pomaderef01_Members.l0 (k + 1) y0 y1 y2))
  | 0 => fun _ _ _ r h => by simp [pomaderef01_Members.l0] at h
  | k + 1 => by
    have ih0 := pomaderef01_Members.mono_l k
    · intro y0 y1 y2
      unfold pomaderef01_Members.l0
      repeat' first
      | (with_reducible exact ih0 _ _ _)
      | (with_reducible exact LeO.refl _)
      | (with_reducible exact LeO.none _)
      | (with_reducible refine LeO.ite ?_ ?_)
      | (with_reducible refine LeO.bind ?_ (fun _ => ?_))
      | exact ih0 _ _ _
      | exact LeO.none _
      | refine LeO.ite ?_ ?_
      | refine LeO.bind ?_ (fun _ => ?_)
theorem pomaderef01_Members.mono : ∀ a0 k, LeO (pomaderef01_Members.f k a0) (pomaderef01_Members.f (k + 1) a0) := by
  intro a0 k
  have ih0 := pomaderef01_Members.mono_l k
  unfold pomaderef01_Members.f
  repeat' first
      | (with_reducible exact ih0 _ _ _)
      | (with_reducible exact LeO.refl _)
      | (with_reducible exact LeO.none _)
      | (with_reducible refine LeO.ite ?_ ?_)
      | (with_reducible refine LeO.bind ?_ (fun _ => ?_))
      | exact ih0 _ _ _
      | exact LeO.none _
      | refine LeO.ite ?_ ?_
      | refine LeO.bind ?_ (fun _ => ?_)
set_option maxHeartbeats 8000000 in
set_option maxRecDepth 100000 in
theorem pomaderef01_Members.calls (k : Nat) (a0 : Int) (r : List Int) (w : World) (h : pomaderef01_Members.f k a0 = some r) :
    Calls Try.prog 53 #[.int .i64 a0] w fun e w' => ∃ v0_ : Value, e = .returned (v0_) ∧ Kd.R (Kd.int .i64) 3 w' w.heap.size (fun _ => True) v0_ r ∧ Below w.heap.size w w' := by
  have HB := Aside0.mk (Below.refl w.heap.size w)
  have H : (pomaderef01_Members.l0 k a0 ([] : List Int) 0) = some r := h
  clear h
  have H' := Aside0.mk H
  clear H
  go_enter Try.func53, Try.ntmps53
  go_wp2
  go_loopg [3, 4] k (fun kq v3 v4 w' => ∃ (x3_1 : List Int) (x4_1 : Int), v4 = .int .i64 x4_1 ∧ Aside0 (pomaderef01_Members.l0 kq a0 x3_1 x4_1 = some r) ∧ Aside0 (kq ≤ k) ∧ Aside0 (Kd.R (Kd.int .i64) 3 w' w.heap.size (fun _ => True) v3 x3_1) ∧ Aside0 (Below w.heap.size w w'))
  case atStart => exact ⟨(([] : List Int)), (0), (by first | rfl | (simp; done) | (simp [*]; done)), H', ⟨Nat.le_refl _⟩, ⟨by first | exact Kd.R_nil _ _ _ _ _ | exact Kd.N_nil _ _ _ _ _ | exact Kd.V_nil _ _ _ _ _ | exact Kd.Q_nil _ _ _ _ _ | exact Kd.S_nil _ _ _ _ _⟩, ⟨by repeat (first | (with_reducible first | exact HB.out | apply below_alloc | apply pw_below_drewN | apply below_drew1) | exact HB.out)⟩⟩
  case round =>
    clear H'
    obtain ⟨x3_1, x4_1, rfl, HA, HK1, HO_3, HB⟩ := hrel
    cases gk with
    | zero => exact absurd HA.out (by simp [pomaderef01_Members.l0])
    | succ k1 =>
      have H := HA.out
      clear HA
      simp only [pomaderef01_Members.l0] at H
      by_cases c2 : x4_1 < 30
      · rw [if_pos c2] at H
        have c2b0 : decide (x4_1 < 30) = true := decide_eq_true c2
        clear c2
        by_cases c3 : 0 ≤ x4_1
        · rw [if_pos c3] at H
          have c3b0 := eq_true c3
          have c3b1 : decide (0 ≤ x4_1) = true := decide_eq_true c3
          clear c3
          obtain ⟨ji4, hji4⟩ : ∃ j_ : Int, (shr .i64 a0 x4_1) = j_ := ⟨_, rfl⟩
          replace H : (if (Int.tmod (ji4) 2) = 1 then (if x3_1.length < 17592186044416 then (pomaderef01_Members.l0 k1 a0 (x3_1 ++ [x4_1]) (wrap64 (x4_1 + 1))) else (none)) else (pomaderef01_Members.l0 k1 a0 x3_1 (wrap64 (x4_1 + 1)))) = some r := by first | (rw [hji4] at H; exact H) | (simp only [hji4] at H ⊢; exact H)
          have hji4_ : (a0 / 2 ^ min x4_1.toNat 64) = ji4 := hji4
          have hji4z : x4_1 ≤ 64 → (a0 / 2 ^ x4_1.toNat) = ji4 := shr_small hji4
          by_cases c5 : (Int.tmod (ji4) 2) = 1
          · rw [if_pos c5] at H
            have c5b0 : ((Int.tmod (ji4) 2) == 1) = true := beq_iff_eq.mpr c5
            have c5b1 : ((Int.tmod (ji4) 2) != 1) = false := bne_eq_false_iff_eq.mpr c5
            clear c5
            by_cases c6 : x3_1.length < 17592186044416
            · rw [if_pos c6] at H
              have LMc6 := Aside0.mk c6
              clear c6
              obtain ⟨y145, hy145⟩ : ∃ y_ : List Int, y_ = (x3_1 ++ [x4_1]) := ⟨_, rfl⟩
              replace H : (pomaderef01_Members.l0 k1 a0 y145 (wrap64 (x4_1 + 1))) = some r := by first | (rw [hy145]; with_reducible exact H) | (have H2_ := (Option.bind_some _ _).symm.trans H; rw [hy145]; with_reducible exact H2_) | (have H2_ := (Option.bind_some _ _).symm.trans H; with_reducible exact H2_) | with_reducible exact H | (rw [hy145]; exact H) | exact H
              have Ny145 := Aside0.mk hy145
              clear hy145
              have H' := Aside0.mk H
              clear H
              go_wp2_with (first | ((with_reducible refine gate_builtin (b := .append) (xs := #[.tmp 14, .tmp 16]) rfl ?_); at_builtin; refine Kd.R_append (Kd.int .i64) (w0 := w) w.heap.size rfl (.tmp 14) (.tmp 16) 25 3 (.int .i64 0) 8 rfl Try.underlying25 info3 rfl (by decide) (by omega) u3 x3_1 x4_1 [.int .i64 x4_1] (fun _ => True) (fun _ => False) rfl rfl ?aP (fun _ hk => hk.elim) ?aF ?aO ?aB ?aS ?aL ?_; (case aP => exact rfl); (case aB => exact (by repeat (first | (with_reducible first | exact HB.out | apply below_alloc | apply pw_below_drewN | apply below_drew1) | exact HB.out))); (case aF => exact (fun _ _ => trivial)); (case aO => exact (by (with_reducible repeat (first | apply Kd.R_alloc | apply Kd.R_drewN | apply Kd.R_drew)); exact HO_3.out)); (case aS => exact (below_size (by repeat (first | (with_reducible first | exact HB.out | apply below_alloc | apply pw_below_drewN | apply below_drew1) | exact HB.out)))); (case aL => have := LMc6.out; omega); intro v146 w7 ho hb hg hat; rw [← Ny145.out] at ho; have n0_ := Aside0.mk (hb); have n1_ := Aside0.mk (ho); clear HB; clear HO_3; have HB := n0_; have HO147 := n1_; clear n0_ n1_; clear ho hb hg hat))
              go_roundg k1
              case measure => have := HK1.out; omega
              case rel => exact ⟨(y145), (wrap64 (x4_1 + 1)), (by first | rfl | (simp; done) | (simp [*]; done)), H', ⟨by have := HK1.out; omega⟩, ⟨by (with_reducible repeat (first | apply Kd.R_alloc | apply Kd.R_drewN | apply Kd.R_drew)); exact HO147.out⟩, ⟨by repeat (first | (with_reducible first | exact HB.out | apply below_alloc | apply pw_below_drewN | apply below_drew1) | exact HB.out)⟩⟩
            · rw [if_neg c6] at H
              exact absurd H (by simp)
          · rw [if_neg c5] at H
            have c5b0 : ((Int.tmod (ji4) 2) == 1) = false := beq_eq_false_iff_ne.mpr c5
            have c5b1 : ((Int.tmod (ji4) 2) != 1) = true := bne_iff_ne.mpr c5
            have H' := Aside0.mk H
            clear H
            go_wp2
            go_roundg k1
            case measure => have := HK1.out; omega
            case rel => exact ⟨(x3_1), (wrap64 (x4_1 + 1)), (by first | rfl | (simp; done) | (simp [*]; done)), H', ⟨by have := HK1.out; omega⟩, ⟨by (with_reducible repeat (first | apply Kd.R_alloc | apply Kd.R_drewN | apply Kd.R_drew)); exact HO_3.out⟩, ⟨by repeat (first | (with_reducible first | exact HB.out | apply below_alloc | apply pw_below_drewN | apply below_drew1) | exact HB.out)⟩⟩
        · rw [if_neg c3] at H
          exact absurd H (by simp)
      · rw [if_neg c2] at H
        have c2b0 : decide (x4_1 < 30) = false := decide_eq_false c2
        clear c2
        obtain rfl := Option.some.inj H
        go_wp2
        go_ret
        exact ⟨_, by first | rfl | (simp [errW_none, errW_some] <;> rfl) | (simp [*, errW_none, errW_some] <;> rfl), by (with_reducible repeat (first | apply Kd.R_alloc | apply Kd.R_drewN | apply Kd.R_drew)); exact HO_3.out, by repeat (first | (with_reducible first | exact HB.out | apply below_alloc | apply pw_below_drewN | apply below_drew1) | exact HB.out)⟩
end Go.Proofs.Ytmobefgnkiboaaa.Im

