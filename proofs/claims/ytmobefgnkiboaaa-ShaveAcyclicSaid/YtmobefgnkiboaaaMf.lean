/- Numbers that can belong to a ranking. The first numbers of a ranking: possible, ranked. The search for a ranking. Ranks. -/
import Derived.Test.YtmobefgnkiboaaaMe1
namespace Go.Proofs.Ytmobefgnkiboaaa.Im
open Go.RowKit Go.Proofs.YtmobefgnkiboaaaW.PrintWords Go.Proofs.YtmobefgnkiboaaaW.PrintLast Go.Proofs.YtmobefgnkiboaaaW.PrintMore
set_option linter.unusedVariables false
attribute [local go_sem] tnA_zero

def numStep (ranks : List Nat) (a : Nat × Nat) (j : Nat) : Nat × Nat := if j < ranks.length then (a.1 ||| 2 ^ (ranks.getD j 0), a.2) else (a.1, a.2 + 1)
def numN (ranks M : List Nat) : Nat × Nat := M.foldl (numStep ranks) (0, 0)
theorem numN_snoc (ranks M : List Nat) (k : Nat) (h : k < M.length) : numN ranks (M.take (k + 1)) = numStep ranks (numN ranks (M.take k)) M[k] := by
  rw [List.take_succ_eq_append_getElem h]
  unfold numN
  rw [List.foldl_append]
  rfl
theorem numN_lt (ranks : List Nat) (hr : ∀ x ∈ ranks, x ≤ 12) : ∀ (M : List Nat) (a : Nat × Nat), a.1 < 8192 → (M.foldl (numStep ranks) a).1 < 8192
  | [], a, h => h
  | j :: M, a, h => by
    refine numN_lt ranks hr M _ ?_
    unfold numStep
    split
    · rename_i hj
      have : ranks.getD j 0 ≤ 12 := by
        rw [List.getD_eq_getElem?_getD, List.getElem?_eq_getElem hj]
        exact hr _ (List.getElem_mem hj)
      exact Nat.or_lt_two_pow (n := 13) h (Nat.pow_lt_pow_right (by decide) (by omega))
    · exact h
theorem numN_open (ranks : List Nat) : ∀ (M : List Nat) (a : Nat × Nat), (M.foldl (numStep ranks) a).2 ≤ a.2 + M.length
  | [], a => Nat.le_refl _
  | j :: M, a => by
    have := numN_open ranks M (numStep ranks a j)
    have h2 : (numStep ranks a j).2 ≤ a.2 + 1 := by unfold numStep; split <;> simp
    simp only [List.foldl_cons, List.length_cons]
    omega

set_option maxHeartbeats 1600000 in
set_option maxRecDepth 100000 in
theorem numbers_any (n : Nat) (o : List Nat) (i : Nat) (A : Option Addr) (c : Nat) (ranks : List Nat) (w : World) (ok : Okt n o) (hi : i < 12) (hr : Kd.C (Kd.int .i64) w A ranks.length (ints ranks)) (hc : ranks.length ≤ c) (hrl : ranks.length ≤ 12) (hx : ∀ x ∈ ranks, x ≤ 12) :
    Calls Try.prog 80 #[.agg (tnN n o), .int .i64 i, .slice A ranks.length c] w fun e w' => e = .returned (.tuple #[.int .i64 ((numN ranks (memL (o.getD i 0))).1 : Nat), .int .i64 ((numN ranks (memL (o.getD i 0))).2 : Nat)]) ∧ Below w.heap.size w w' := by
  have HR := Aside0.mk hr
  have hlen : (ints ranks).length = ranks.length := ints_length ranks
  have ht : TnN (w.alloc (.cells (tnN n o) 50)) w.heap.size n o := Blk.new _ _ _
  have co := ht.cellS i (by rw [ok.len]; omega)
  rw [Nat.add_comm] at co
  have hnx : o.getD i 0 < 4096 := Nat.lt_of_lt_of_le (ok.lt _) (Nat.pow_le_pow_right (by decide) ok.n12 : 2 ^ n ≤ 2 ^ 12)
  generalize o.getD i 0 = nx at *
  have hml := memL_len nx
  have HML := Aside0.mk (fun x (hx : x ∈ memL nx) => memL_lt hx)
  have HM := Aside0.mk (fun w => members_any nx w hnx)
  have HNL := Aside0.mk (fun k => numN_lt ranks hx ((memL nx).take k) (0, 0) (by decide))
  have HNO := Aside0.mk (fun k => numN_open ranks ((memL nx).take k) (0, 0))
  have HX := Aside0.mk hx
  rw [show memL nx = mem12 nx 0 from rfl] at *
  generalize mem12 nx 0 = M at *
  have hlm : (ints M).length = M.length := ints_length M
  have i0 : (0 : Int) ≤ i := by omega
  have i1 : (i : Int) < 12 := by omega
  clear ht ok hr hx
  unfold tnN at *
  go_enter Try.func80, Try.ntmps80
  go_wp2_with fail
  refine (HM.out _).mono ?_
  rintro e w1 ⟨v1, rfl, hr1, hb1⟩
  obtain ⟨A1, c1, rfl, hl1, hC1⟩ := Kd.R_reads hr1
  have HB1 := Aside0.mk (below_then (below_alloc (Below.refl _ w) (.cells (tnA n (ints o)) 50)) (below_alloc (Below.refl _ w) (.cells (tnA n (ints o)) 50)).size hb1)
  have HC1 := Aside0.mk hC1
  rw [hlm] at HC1 hl1 ⊢
  clear hr1 hb1 hC1 HM co
  go_wp2_with fail
  go_loop [8, 9, 18] (fun v8 v9 v => ∃ k : Nat, k ≤ M.length ∧ v = .int .i64 (k : Int) ∧ v8 = .int .i64 ((numN ranks (M.take k)).1 : Nat) ∧ v9 = .int .i64 ((numN ranks (M.take k)).2 : Nat)) (fun _ _ v => M.length - (intOf v).toNat)
  case atStart => exact ⟨0, Nat.zero_le _, rfl, rfl, rfl⟩
  case round =>
    obtain ⟨k, hk, rfl, rfl, rfl⟩ := hrel
    have b1 : (numN ranks (M.take k)).1 < 8192 := HNL.out k
    have b2 : (numN ranks (M.take k)).2 ≤ k := by have := HNO.out k; rw [List.length_take, Nat.min_eq_left hk] at this; simpa [numN] using this
    by_cases hkl : k < M.length
    · have hs := numN_snoc ranks M k hkl
      have b1' : (numN ranks (M.take (k + 1))).1 < 8192 := HNL.out (k + 1)
      obtain ⟨ad1, rfl, cx⟩ := Kd.at_int HC1.out (k : Int) (by omega) (by omega)
      rw [rd_ints, Int.toNat_natCast] at cx
      have hje : M.getD k 0 = M[k] := by simp [hkl]
      have hjn : M[k] < 12 := HML.out _ (List.getElem_mem hkl)
      rw [hje] at cx
      generalize M[k] = j at *
      generalize numN ranks (M.take k) = a at *
      obtain ⟨a1, a2⟩ := a
      simp only at b1 b2
      by_cases hjr : j < ranks.length
      · have h2 : numN ranks (M.take (k + 1)) = (a1 ||| 2 ^ (ranks.getD j 0), a2) := by rw [hs, numStep, if_pos hjr]
        have hrj : ranks.getD j 0 ≤ 12 := by
          rw [List.getD_eq_getElem?_getD, List.getElem?_eq_getElem hjr]
          exact HX.out _ (List.getElem_mem hjr)
        obtain ⟨ad, rfl, cr⟩ := Kd.at_int HR.out (j : Int) (by omega) (by omega)
        replace cr := (HB1.out.cell (World.block_lt_of_cell? w _ cr)).trans cr
        rw [rd_ints, Int.toNat_natCast] at cr
        generalize ranks.getD j 0 = rj at *
        have e1 : ((a1 ||| 2 ^ rj : Nat) : Int) = bits .or .i64 (a1 : Int) (wrap64 (2 ^ rj)) := by
          rw [wr_pow rj (by omega), b_or a1 _ (by omega) (Nat.pow_lt_pow_right (by decide) (by omega))]
        have H2 := Aside0.mk h2
        have E1 := Aside0.mk e1
        clear hs h2 e1 b1' hje
        go_wp2_with fail
        go_round
        case rel => exact ⟨k + 1, by omega, by go_num, by rw [H2.out, E1.out], by rw [H2.out]⟩
        case measure => simp [intOf]; omega
      · have h2 : numN ranks (M.take (k + 1)) = (a1, a2 + 1) := by rw [hs, numStep, if_neg hjr]
        have H2 := Aside0.mk h2
        clear hs h2 b1' hje
        go_wp2_with fail
        go_round
        case rel => exact ⟨k + 1, by omega, by go_num, by rw [H2.out], by rw [H2.out]; go_num⟩
        case measure => simp [intOf]; omega
    · obtain rfl : k = M.length := by omega
      have HF := Aside0.mk (show M.take M.length = M from List.take_length)
      rw [HF.out]
      go_wp2_with fail
      go_ret2
      exact ⟨rfl, HB1.out⟩
end Go.Proofs.Ytmobefgnkiboaaa.Im

namespace Go.Proofs.Ytmobefgnkiboaaa.Im
open Go.RowKit Go.Proofs.YtmobefgnkiboaaaW.PrintWords Go.Proofs.YtmobefgnkiboaaaW.PrintLast Go.Proofs.YtmobefgnkiboaaaW.PrintMore
set_option linter.unusedVariables false

/-- Can a person have its number? -/
def posB (o ranks : List Nat) (i : Nat) : Bool :=
  !(numN ranks (memL (o.getD i 0))).1.testBit (ranks.getD i 0) && decide ((memL (andN (2 ^ (ranks.getD i 0) - 1) (numN ranks (memL (o.getD i 0))).1)).length ≤ (numN ranks (memL (o.getD i 0))).2)
def possB (o ranks : List Nat) : Bool := (List.range ranks.length).all (posB o ranks)
def PosTo (o ranks : List Nat) (k : Nat) : Prop := ∀ j, j < k → posB o ranks j = true
theorem PosTo.succ {o ranks : List Nat} {k : Nat} (h : PosTo o ranks k) (h1 : posB o ranks k = true) : PosTo o ranks (k + 1) := fun j hj => by
  rcases Nat.lt_or_ge j k with hlt | hge
  · exact h j hlt
  · obtain rfl : j = k := by omega
    exact h1
theorem possB_true {o ranks : List Nat} (h : PosTo o ranks ranks.length) : possB o ranks = true := by
  unfold possB; rw [List.all_eq_true]; exact fun x hx => h x (List.mem_range.1 hx)
theorem possB_false {o ranks : List Nat} {k : Nat} (hk : k < ranks.length) (h : posB o ranks k = false) : possB o ranks = false := by
  unfold possB; rw [List.all_eq_false]; exact ⟨k, List.mem_range.2 hk, by rw [h]; simp⟩

set_option maxHeartbeats 3200000 in
set_option maxRecDepth 100000 in
theorem possible_any (n : Nat) (o : List Nat) (A : Option Addr) (c : Nat) (ranks : List Nat) (w : World) (ok : Okt n o) (hr : Kd.C (Kd.int .i64) w A ranks.length (ints ranks)) (hc : ranks.length ≤ c) (hrl : ranks.length ≤ n) (hx : ∀ x ∈ ranks, x ≤ 12) :
    Calls Try.prog 49 #[.agg (tnN n o), .slice A ranks.length c] w fun e w' => e = .returned (.bool (possB o ranks)) ∧ Below w.heap.size w w' := by
  have HR := Aside0.mk hr
  have hlen : (ints ranks).length = ranks.length := ints_length ranks
  have HT : Aside0 (TnN (w.alloc (.cells (tnN n o) 50)) w.heap.size n o) := ⟨Blk.new _ _ _⟩
  have HB0 := Aside0.mk (below_alloc (Below.refl _ w) (.cells (tnN n o) 50))
  have HK := Aside0.mk ok
  have n12 := ok.n12
  have HX := Aside0.mk hx
  clear hr hx ok
  go_enter Try.func49, Try.ntmps49
  go_wp2_with fail
  generalize w.alloc (.cells (tnN n o) 50) = W at *
  go_loopw [12] (fun v wr => ∃ k : Nat, k ≤ ranks.length ∧ v = .int .i64 (k : Int) ∧ Aside0 (PosTo o ranks k) ∧ Aside0 (Below W.heap.size W wr)) (fun v _ => ranks.length - (intOf v).toNat)
  case atStart => exact ⟨0, Nat.zero_le _, rfl, ⟨fun j hj => absurd hj (by omega)⟩, ⟨Below.refl _ _⟩⟩
  case round =>
    obtain ⟨k, hk, rfl, HP, HB⟩ := hrel
    have HBw := Aside0.mk (below_then HB0.out HB0.out.size HB.out)
    by_cases hkl : k < ranks.length
    · obtain ⟨ad, rfl, cx⟩ := Kd.at_int HR.out (k : Int) (by omega) (by omega)
      replace cx := (HBw.out.cell (World.block_lt_of_cell? w _ cx)).trans cx
      rw [rd_ints, Int.toNat_natCast] at cx
      have hrj : ranks.getD k 0 ≤ 12 := by
        rw [List.getD_eq_getElem?_getD, List.getElem?_eq_getElem hkl]
        exact HX.out _ (List.getElem_mem hkl)
      have hN := numbers_any n o k (some ad) c ranks wr HK.out (by omega) (Kd.C_below HR.out HBw.out) hc (by omega) HX.out
      have hpos : posB o ranks k = (!(numN ranks (memL (o.getD k 0))).1.testBit (ranks.getD k 0) && decide ((memL (andN (2 ^ (ranks.getD k 0) - 1) (numN ranks (memL (o.getD k 0))).1)).length ≤ (numN ranks (memL (o.getD k 0))).2)) := rfl
      have hb1 : (numN ranks (memL (o.getD k 0))).1 < 8192 := numN_lt ranks HX.out _ (0, 0) (by decide)
      have hb2 : (numN ranks (memL (o.getD k 0))).2 ≤ 12 := by have := numN_open ranks (memL (o.getD k 0)) (0, 0); have := memL_len (o.getD k 0); simp only [numN] at *; omega
      generalize numN ranks (memL (o.getD k 0)) = a at *
      obtain ⟨a1, a2⟩ := a
      simp only at hb1 hb2 hN hpos
      generalize ranks.getD k 0 = r at *
      have hp2 : 2 ^ r ≤ 4096 := Nat.pow_le_pow_right (by decide) hrj
      have hp0 : 0 < 2 ^ r := Nat.two_pow_pos r
      have ea : bits .andNot .i64 (wrap64 (wrap64 (2 ^ r) - 1)) (a1 : Int) = ((andN (2 ^ r - 1) a1 : Nat) : Int) := by
        rw [wr_pow r (by omega), show ((2 ^ r : Nat) : Int) - 1 = ((2 ^ r - 1 : Nat) : Int) by omega, wr62' _ (by omega), b_andN _ _ (by omega) (by omega)]
      have hm4 : andN (2 ^ r - 1) a1 < 4096 := andN_lt _ _ 12 (by omega)
      have hMe := Aside0.mk (fun w => members_any (andN (2 ^ r - 1) a1) w hm4)
      rw [← ea] at hMe
      have hml := memL_len (andN (2 ^ r - 1) a1)
      rw [show memL (andN (2 ^ r - 1) a1) = mem12 (andN (2 ^ r - 1) a1) 0 from rfl] at *
      generalize mem12 (andN (2 ^ r - 1) a1) 0 = M at *
      have hlm : (ints M).length = M.length := ints_length M
      have e1 := b_bit1 a1 r (by omega)
      have HT2 := Aside0.mk (Blk.later HT.out HB.out)
      have HN := Aside0.mk hN
      have HPS := Aside0.mk hpos
      clear hN hpos ea hp2 hp0
      have hsz := Aside0.mk (tn_info n o HK.out.len)
      go_wp2_with (refine wpList_load_row rfl 50 _ rfl w.heap.size rfl 50 (tnN n o) (0, 0) _ HT2.out Try.underlying50 rfl hsz.out ?_)
      refine HN.out.mono ?_
      rintro e w2 ⟨rfl, hb2⟩
      have HB2 := Aside0.mk (below_then HB.out HB.out.size hb2)
      clear hb2
      go_wp2_with fail
      refine (hMe.out _).mono ?_
      rintro e w3 ⟨v3, rfl, hr3, hb3⟩
      obtain ⟨A3, c3, rfl, hl3, hC3⟩ := Kd.R_reads hr3
      rw [hlm] at hl3 ⊢
      have HB3 := Aside0.mk (below_then HB2.out HB2.out.size hb3)
      clear hb3 hC3 hr3 hMe
      cases hbit : a1.testBit r
      · rw [hbit] at e1
        have HP1 := Aside0.mk (show posB o ranks k = decide (M.length ≤ a2) by rw [HPS.out, hbit]; rfl)
        clear hbit
        by_cases hle : M.length ≤ a2
        · have HP2 := Aside0.mk (HP.out.succ (HP1.out.trans (decide_eq_true hle)))
          have d1 : ¬ ((a2 : Int) < (M.length : Int)) := by omega
          go_wp2_with fail
          go_roundw
          case rel => exact ⟨k + 1, by omega, by go_num, HP2, HB3⟩
          case measure => simp [intOf]; omega
        · have HF := Aside0.mk (possB_false hkl (HP1.out.trans (decide_eq_false hle)))
          have d1 : (a2 : Int) < (M.length : Int) := by omega
          go_wp2_with fail
          go_ret
          exact ⟨by rw [HF.out]; rfl, below_then HB0.out HB0.out.size HB3.out⟩
      · rw [hbit] at e1
        have HF := Aside0.mk (possB_false hkl (show posB o ranks k = false by rw [HPS.out, hbit]; rfl))
        clear hbit
        go_wp2_with fail
        go_ret
        exact ⟨by rw [HF.out]; rfl, below_then HB0.out HB0.out.size HB3.out⟩
    · obtain rfl : k = ranks.length := by omega
      have HF := Aside0.mk (possB_true HP.out)
      go_wp2_with fail
      go_ret
      exact ⟨by rw [HF.out]; rfl, HBw.out⟩

set_option maxHeartbeats 800000 in
theorem ranked_any (n : Nat) (o : List Nat) (A : Option Addr) (c : Nat) (ranks : List Nat) (w : World) (ok : Okt n o) (hr : Kd.C (Kd.int .i64) w A ranks.length (ints ranks)) (hc : ranks.length ≤ c) (hrl : ranks.length ≤ n) (hx : ∀ x ∈ ranks, x ≤ 12) :
    Calls Try.prog 48 #[.agg (tnN n o), .slice A ranks.length c] w fun e w' => e = .returned (.bool (possB o ranks)) ∧ Below w.heap.size w w' := by
  have HT : Aside0 (TnN (w.alloc (.cells (tnN n o) 50)) w.heap.size n o) := ⟨Blk.new _ _ _⟩
  have HB0 := Aside0.mk (below_alloc (Below.refl _ w) (.cells (tnN n o) 50))
  have hsz := Aside0.mk (tn_info n o ok.len)
  have HP := Aside0.mk (possible_any n o A c ranks (w.alloc (.cells (tnN n o) 50)) ok (Kd.C_below hr HB0.out) hc hrl hx)
  clear hr hx ok
  go_enter Try.func48, Try.ntmps48
  go_wp2_with (refine wpList_load_row rfl 50 _ rfl w.heap.size rfl 50 (tnN n o) (0, 0) _ HT.out Try.underlying50 rfl hsz.out ?_)
  refine HP.out.mono ?_
  rintro e w2 ⟨rfl, hb2⟩
  have HB2 := Aside0.mk (below_then HB0.out HB0.out.size hb2)
  clear hb2
  go_wp2_with fail
  go_ret
  exact ⟨rfl, HB2.out⟩
end Go.Proofs.Ytmobefgnkiboaaa.Im

namespace Go.Proofs.Ytmobefgnkiboaaa.Im
open Go.RowKit Go.Proofs.YtmobefgnkiboaaaW.PrintWords Go.Proofs.YtmobefgnkiboaaaW.PrintLast Go.Proofs.YtmobefgnkiboaaaW.PrintMore
set_option linter.unusedVariables false

def rankF (o : List Nat) : Nat → List Nat → Option (List Nat)
  | 0, ranks => if possB o ranks then some ranks else none
  | d + 1, ranks => (List.range ((memL (o.getD ranks.length 0)).length + 1)).findSome? fun r => if possB o (ranks ++ [r]) then rankF o d (ranks ++ [r]) else none
def mosts (n : Nat) (o : List Nat) : List Nat := (List.range n).map fun i => (memL (o.getD i 0)).length
theorem mosts_len (n : Nat) (o : List Nat) : (mosts n o).length = n := by simp [mosts]
theorem mosts_get (n : Nat) (o : List Nat) (i : Nat) (h : i < n) : (mosts n o).getD i 0 = (memL (o.getD i 0)).length := by simp [mosts, h]

/-- The boxes of the search. -/
structure RankB (w : World) (gn gt gv gm go n : Nat) (o : List Nat) : Prop where
  bn : Blk w gn 3 #[.int .i64 (n : Nat)]
  bt : TnN w gt n o
  bv : Blk w gv 25 #[.slice (some ⟨gm, 0, none⟩) n n]
  bm : Kd.C (Kd.int .i64) w (some ⟨gm, 0, none⟩) n (ints (mosts n o))
  bo : Blk w go 54 #[.func (.func 47) #[] #[.pointer (some ⟨gn, 0, none⟩), .pointer (some ⟨gt, 0, none⟩), .pointer (some ⟨gv, 0, none⟩), .pointer (some ⟨go, 0, none⟩)]]
theorem RankB.later {w w' : World} {gn gt gv gm go n : Nat} {o : List Nat} (h : RankB w gn gt gv gm go n o) (hb : Below w.heap.size w w') : RankB w' gn gt gv gm go n o :=
  ⟨h.bn.later hb, Blk.later h.bt hb, h.bv.later hb, Kd.C_below h.bm hb, h.bo.later hb⟩

set_option maxHeartbeats 3200000 in
set_option maxRecDepth 100000 in
theorem rank1_any (gn gt gv gm go n : Nat) (o : List Nat) (ok : Okt n o) (d : Nat) :
    ∀ (ranks : List Nat) (A : Option Addr) (c : Nat) (w : World), ranks.length + d = n → (∀ x ∈ ranks, x ≤ 12) → RankB w gn gt gv gm go n o →
      Kd.C (Kd.int .i64) w A ranks.length (ints ranks) → (A = none → ranks.length = 0) → ranks.length ≤ c →
      Calls Try.prog 47 #[.slice A ranks.length c, .pointer (some ⟨gn, 0, none⟩), .pointer (some ⟨gt, 0, none⟩), .pointer (some ⟨gv, 0, none⟩), .pointer (some ⟨go, 0, none⟩)] w (FoundP w (rankF o d ranks)) := by
  have qn : ∀ (w : World) (a : Option Addr) (n c n' c' : Nat), (binOp .neq 25 (.slice a n c) (.slice none n' c')).run Try.prog w = .ok (.bool (!a.isNone)) w := fun w a n c n' c' => run_neq_slice_nil_any w _ _ a n c n' c' Try.underlying25
  have n12 := ok.n12
  induction d with
  | zero =>
    intro ranks A c w hl hx hB hr hA hc
    have hlen : (ints ranks).length = ranks.length := ints_length ranks
    have hn1 := ok.n1
    obtain ⟨ad, rfl⟩ := C_some (by rw [hlen]; exact hr) (by omega)
    have cn : w.cell? ⟨gn, 0, none⟩ = some (.int .i64 (n : Nat)) := hB.bn.cell 0
    have hRk := Aside0.mk (ranked_any n o (some ad) c ranks w ok hr hc (by omega) hx)
    have hR : rankF o 0 ranks = if possB o ranks then some ranks else none := rfl
    rw [hR]
    have HR := Aside0.mk hr
    have HT := Aside0.mk hB.bt
    have HL := Aside0.mk hlen
    have hsz := Aside0.mk (tn_info n o ok.len)
    have neq : ((ranks.length : Int) == (n : Int)) = true := beq_iff_eq.2 (by omega)
    clear hR hB hr
    cases hb : possB o ranks
    · rw [hb] at hRk
      rw [if_neg (by simp)]
      clear hb
      go_enter Try.func47, Try.ntmps47
      go_wp2_with (refine wpList_load_row rfl 50 _ rfl gt rfl 50 (tnN n o) (0, 0) _ HT.out Try.underlying50 rfl hsz.out ?_)
      refine hRk.out.mono ?_
      rintro e w2 ⟨rfl, hb2⟩
      have HB2 := Aside0.mk hb2
      clear hb2
      go_wp2_with fail
      go_ret
      exact ⟨rfl, HB2.out⟩
    · rw [hb] at hRk
      rw [if_pos rfl]
      clear hb
      go_enter Try.func47, Try.ntmps47
      go_wp2_with (refine wpList_load_row rfl 50 _ rfl gt rfl 50 (tnN n o) (0, 0) _ HT.out Try.underlying50 rfl hsz.out ?_)
      refine hRk.out.mono ?_
      rintro e w2 ⟨rfl, hb2⟩
      have HB2 := Aside0.mk hb2
      have HR2 := Aside0.mk (Kd.C_below HR.out hb2)
      clear hb2
      go_wp2_with fail
      go_ret
      exact ⟨ad, c, by rw [HL.out]; rfl, by rw [HL.out]; exact hc, by rw [HL.out]; exact HR2.out, HB2.out⟩
  | succ d ih =>
    intro ranks A c w hl hx hB hr hA hc
    have IH := Aside0.mk ih
    have hlen : (ints ranks).length = ranks.length := ints_length ranks
    have cn : w.cell? ⟨gn, 0, none⟩ = some (.int .i64 (n : Nat)) := hB.bn.cell 0
    have cv : w.cell? ⟨gv, 0, none⟩ = some (.slice (some ⟨gm, 0, none⟩) n n) := hB.bv.cell 0
    obtain ⟨_, e0, cm⟩ := Kd.at_int hB.bm (ranks.length : Int) (by omega) (by omega)
    cases e0
    rw [rd_ints, mosts_get n o _ (by omega), Int.toNat_natCast] at cm
    have cm' : w.cell? ⟨gm, ranks.length, none⟩ = some (.int .i64 ((memL (o.getD ranks.length 0)).length : Nat)) := by
      have e : (⟨gm, 0, none⟩ : Addr).add ranks.length = ⟨gm, ranks.length, none⟩ := by unfold Addr.add; split <;> simp_all
      rwa [e] at cm
    have hR : rankF o (d + 1) ranks = (List.range ((memL (o.getD ranks.length 0)).length + 1)).findSome? fun r => if possB o (ranks ++ [r]) then rankF o d (ranks ++ [r]) else none := rfl
    rw [hR]
    have hml := memL_len (o.getD ranks.length 0)
    generalize (memL (o.getD ranks.length 0)).length = most at *
    obtain ⟨gg, hgg⟩ : ∃ gg : Nat → Option (List Nat), gg = fun r => if possB o (ranks ++ [r]) then rankF o d (ranks ++ [r]) else none := ⟨_, rfl⟩
    have HGG := Aside0.mk (fun j => congrFun hgg j)
    rw [← hgg]
    obtain ⟨R, hRR⟩ : ∃ R, (List.range (most + 1)).findSome? gg = R := ⟨_, rfl⟩
    rw [hRR]
    have HRR := Aside0.mk hRR
    have HR := Aside0.mk hr
    have HBB := Aside0.mk hB
    have HX := Aside0.mk hx
    have HA := Aside0.mk hA
    have hsz := Aside0.mk (tn_info n o ok.len)
    have HK := Aside0.mk ok
    have neq : ((ranks.length : Int) == (n : Int)) = false := beq_eq_false_iff_ne.2 (by omega)
    clear hR hB hr hx hA ih hRR hgg cm ok
    go_enter Try.func47, Try.ntmps47
    go_wp2_with fail
    go_loopw [25] (fun v wr => ∃ k : Nat, k ≤ most + 1 ∧ v = .int .i64 (k : Int) ∧ Aside0 (noneTo (List.range (most + 1)) gg k) ∧ Aside0 (Below w.heap.size w wr)) (fun v _ => most + 1 - (intOf v).toNat)
    case atStart => exact ⟨0, Nat.zero_le _, rfl, ⟨noneTo_zero _ _⟩, ⟨Below.refl _ _⟩⟩
    case round =>
      obtain ⟨k, hk, rfl, HN, HB⟩ := hrel
      by_cases hkl : k < most + 1
      · have HN1 := Aside0.mk (fun h => noneTo_succ HN.out (by rw [List.length_range]; exact hkl) h)
        have HN2 := Aside0.mk (fun r h => noneTo_some (r := r) HN.out (by rw [List.length_range]; exact hkl) h)
        simp only [List.getElem_range] at HN1 HN2
        have HBr := Aside0.mk (HBB.out.later HB.out)
        have HRr := Aside0.mk (Kd.C_below HR.out HB.out)
        have HGk := Aside0.mk (HGG.out k)
        have hb3 : Below wr.heap.size wr (wr.alloc (.cells #[.int .i64 (k : Nat)] 3)) := below_alloc (Below.refl _ _) _
        have HC3 := Aside0.mk (Kd.C_below HRr.out hb3)
        have HB3 := Aside0.mk (below_then HB.out HB.out.size hb3)
        have HBr3 := Aside0.mk (HBr.out.later hb3)
        have hg3 := Aside0.mk ((Blk.new wr 3 #[.int .i64 (k : Nat)]).cell 0)
        have ex : ints (ranks ++ [k]) = ints ranks ++ [(k : Int)] := ints_snoc ranks k
        have HE := Aside0.mk ex
        have hl2 : (ints (ranks ++ [k])).length = ranks.length + 1 := by rw [ints_length, List.length_append]; rfl
        have hl3 : (ranks ++ [k]).length = ranks.length + 1 := by rw [List.length_append]; rfl
        have HX2 : Aside0 (∀ x ∈ ranks ++ [k], x ≤ 12) := ⟨fun x hx => by rcases List.mem_append.1 hx with h | h; exact HX.out x h; rw [List.mem_singleton.1 h]; omega⟩
        clear hb3 hl2
        generalize ranks ++ [k] = rk at *
        clear ex
        go_wp2_with (first | (refine l_slice3 rfl rfl A ranks.length c rfl rfl rfl hc ?_) | (at_builtin; refine l_app1 rfl (s := .tmp 31) (x := .tmp 33) rfl rfl A (ints ranks) wr.heap.size (k : Nat) (by rw [hlen]; rfl) rfl (by rw [hlen]; exact HC3.out) hg3.out (by rw [hlen]; omega) (by rw [hlen]; exact HA.out) ?_; intro v4 w4 hr4 hb4; have HR4 := Aside0.mk hr4; have HB4 := Aside0.mk hb4; have HBr4 := Aside0.mk (HBr3.out.later hb4); clear hr4 hb4) | (refine wpList_load_row rfl 50 _ rfl gt rfl 50 (tnN n o) (0, 0) _ (by have h := HBr4.out.bt; exact h) Try.underlying50 rfl hsz.out ?_))
        obtain ⟨A4, c4, rfl, hl4, hC4⟩ := Kd.R_reads HR4.out
        rw [← HE.out, ints_length] at hl4 hC4 ⊢
        have hn4 : A4 = none → rk.length = 0 := fun h => by subst h; have := C_none (l := ints rk) (by rw [ints_length]; exact hC4); rw [← ints_length, this]; rfl
        have HN4 := Aside0.mk hn4
        have HC4 := Aside0.mk hC4
        have HBw4 := Aside0.mk (below_then HB3.out HB3.out.size HB4.out)
        have hgk := HGk.out
        have hPo := possible_any n o A4 c4 rk w4 HK.out hC4 hl4 (by omega) HX2.out
        clear HGk hC4 hn4 HR4 HE
        cases hpb : possB o rk
        · rw [hpb, if_neg (by simp)] at hgk
          rw [hpb] at hPo
          have HPo := Aside0.mk hPo
          have HNx := Aside0.mk (HN1.out hgk)
          clear hpb hgk hPo HN1 HN2 hl3
          refine HPo.out.mono ?_
          rintro e w5 ⟨rfl, hb5⟩
          have HB5 := Aside0.mk (below_then HBw4.out HBw4.out.size hb5)
          clear hb5
          go_wp2_with fail
          go_roundw
          case rel => exact ⟨k + 1, by omega, by go_num, HNx, HB5⟩
          case measure => simp [intOf]; omega
        · rw [hpb, if_pos rfl] at hgk
          rw [hpb] at hPo
          have HPo := Aside0.mk hPo
          clear hpb hPo
          refine HPo.out.mono ?_
          rintro e w5 ⟨rfl, hb5⟩
          have HB5 := Aside0.mk (below_then HBw4.out HBw4.out.size hb5)
          have HBr5 := Aside0.mk (HBr4.out.later hb5)
          have co : w5.cell? ⟨go, 0, none⟩ = some (.func (.func 47) #[] #[.pointer (some ⟨gn, 0, none⟩), .pointer (some ⟨gt, 0, none⟩), .pointer (some ⟨gv, 0, none⟩), .pointer (some ⟨go, 0, none⟩)]) := HBr5.out.bo.cell 0
          have HC5 := Aside0.mk (Kd.C_below HC4.out hb5)
          have hIH := IH.out rk A4 c4 w5 (by omega) HX2.out HBr5.out HC5.out HN4.out hl4
          clear hb5
          cases hro : rankF o d rk with
          | none =>
            rw [hro] at hgk hIH
            have HI := Aside0.mk hIH
            have HNx := Aside0.mk (HN1.out hgk)
            clear hro hgk hIH HN1 HN2 hl3
            go_wp2_with fail
            refine HI.out.mono ?_
            rintro e w6 ⟨rfl, hb6⟩
            have HB6 := Aside0.mk (below_then HB5.out HB5.out.size hb6)
            clear hb6
            go_wp2_with fail
            go_roundw
            case rel => exact ⟨k + 1, by omega, by go_num, HNx, HB6⟩
            case measure => simp [intOf]; omega
          | some res =>
            rw [hro] at hgk hIH
            have HI := Aside0.mk hIH
            have HF := Aside0.mk (HRR.out.symm.trans (HN2.out res hgk))
            clear hro hgk hIH HN1 HN2 hl3
            go_wp2_with fail
            refine HI.out.mono ?_
            rintro e w6 ⟨A6, c6, rfl, hl6, hC6, hb6⟩
            have HB6 := Aside0.mk (below_then HB5.out HB5.out.size hb6)
            have HC6 := Aside0.mk hC6
            have HL6 := Aside0.mk hl6
            clear hb6 hC6 hl6
            go_wp2_with fail
            go_ret
            rw [HF.out]
            exact ⟨A6, c6, rfl, HL6.out, HC6.out, HB6.out⟩
      · obtain rfl : k = most + 1 := by omega
        have HF := Aside0.mk (HRR.out.symm.trans (noneTo_all (l := List.range (most + 1)) (g := gg) (by rw [List.length_range]; exact HN.out)))
        go_wp2_with fail
        go_ret
        rw [HF.out]
        exact ⟨rfl, HB.out⟩
end Go.Proofs.Ytmobefgnkiboaaa.Im

namespace Go.Proofs.Ytmobefgnkiboaaa.Im
open Go.RowKit Go.Proofs.YtmobefgnkiboaaaW.PrintWords Go.Proofs.YtmobefgnkiboaaaW.PrintLast Go.Proofs.YtmobefgnkiboaaaW.PrintMore
set_option linter.unusedVariables false

theorem run_storeAt_int (w : World) (ad : Addr) (u : Value) (v : Int) (hc : w.cell? ad = some u) (hf : w.frozen? ad = false) :
    (Instr.storeAt 3 (.pointer (some ad)) (.int .i64 v)).run Try.prog w = .ok () (w.setCell ad (.int .i64 v)) := by
  go_simp
theorem ex_store1 {a : Act} {o : Oper} {x y : Operand} (ho : o.op = .store 3 x y) (w : World) (ad : Addr) (u : Value) (v : Int) (hx : a.eval x = .pointer (some ad)) (hy : a.eval y = .int .i64 v) (hc : w.cell? ad = some u) (hf : w.frozen? ad = false) :
    (execOp a.eval o).run Try.prog w = .ok .skip (w.setCell ad (.int .i64 v)) := by
  have hl := run_storeAt_int w ad u v hc hf
  unfold execOp
  simp [ho, hx, hy, hl, Result.andThen]
section
variable {ops : Array Oper} {Q : Exit → Act → World → Prop} {md : Region.Mode} {S : World → Prop}
theorem rs {P : Program} {i : Nat} {o : Oper} {fuel : Nat} {listed : Array Bool} {a : Act} {w w' : World} (hr : Region.ready md ops listed = [i]) (hi : ops[i]? = some o) (hd : o.dst = none)
    (hw : Region.wanted o (yielded ops a.tmps) = true) (hx : (execOp a.eval o).run P w = .ok .skip w')
    (hS : S w') (h : wpAnyH P md ops Q S fuel (listed.setIfInBounds i true) a w') : wpAnyH P md ops Q S (fuel + 1) listed a w :=
  ro_one hr (ro_skip hi hw hx ⟨hS, by rw [hd]; exact h⟩)
end
theorem C_nil (w : World) : Kd.C (Kd.int .i64) w none ([] : List Nat).length (ints []) := ⟨rfl, by simp, fun h => absurd h (by simp)⟩
theorem made_nums (m : Nat) : madeCells #[Value.int .i64 0] m = (nums .i64 (List.replicate m 0)).toArray := by
  apply Array.ext'
  apply List.ext_getElem
  · simp [nums, madeCells]
  · intro i h1 h2
    simp [nums, madeCells, Nat.mod_one]
/-- A block of ints, all known. -/
def numsA (l : List Nat) : Array Value := (nums .i64 (ints l)).toArray
theorem numsA_get (l : List Nat) (i : Nat) (h : i < l.length) : (numsA l)[i]? = some (.int .i64 (l.getD i 0 : Nat)) := by
  simp [numsA, nums, ints, h]
theorem numsA_set (l : List Nat) (i v : Nat) : (numsA l).setIfInBounds i (.int .i64 (v : Nat)) = numsA (l.set i v) := by
  simp [numsA, nums, ints, List.map_set]
theorem numsA_zero (m : Nat) : madeCells #[Value.int .i64 0] m = numsA (List.replicate m 0) := by
  rw [made_nums]; simp [numsA, ints]
/-- What is filled so far. -/
def fillTo (l : List Nat) (k : Nat) : List Nat := l.take k ++ List.replicate (l.length - k) 0
theorem fillTo_len (l : List Nat) (k : Nat) (h : k ≤ l.length) : (fillTo l k).length = l.length := by simp [fillTo]; omega
theorem fillTo_zero (l : List Nat) : fillTo l 0 = List.replicate l.length 0 := by simp [fillTo]
theorem fillTo_all (l : List Nat) : fillTo l l.length = l := by simp [fillTo]
theorem fillTo_set (l : List Nat) (k : Nat) (h : k < l.length) : (fillTo l k).set k (l.getD k 0) = fillTo l (k + 1) := by
  unfold fillTo
  have e1 : l.length - k = (l.length - (k + 1)) + 1 := by omega
  have e2 : (l.take k).length = k := by rw [List.length_take]; omega
  have e3 : l.getD k 0 = l[k] := by simp [h]
  rw [e1, List.replicate_succ, List.set_append_right _ _ (by omega), e2, Nat.sub_self, List.set_cons_zero, e3, List.take_succ_eq_append_getElem h, List.append_assoc]
  rfl
theorem C_nums {w : World} {g : Nat} {l : List Nat} (h : Blk w g 3 (numsA l)) (hl : l.length < 1000000) : Kd.C (Kd.int .i64) w (some ⟨g, 0, none⟩) l.length (ints l) := by
  have h1 : w.ownsRow 0 3 1 (.slice (some ⟨g, 0, none⟩) (ints l).length l.length) (ints l).length (encs (Value.int .i64) (ints l)) :=
    ⟨by simp [encs], .inr ⟨g, l.length, numsA l, rfl, Nat.zero_le _, h, by rw [ints_length]; exact Nat.le_refl _, by unfold maxLen; omega, by simp [numsA, nums, ints], by
      have e : (numsA l).toList = encs (Value.int .i64) (ints l) := by simp [numsA, nums, encs]
      rw [e]
      exact List.take_of_length_le (by simp [encs])⟩⟩
  have h2 : Kd.R (Kd.int .i64) 3 w 0 (fun _ => True) (.slice (some ⟨g, 0, none⟩) (ints l).length l.length) (ints l) := Kd.R_of_own h1 (fun _ _ => trivial)
  obtain ⟨A, c, e, _, hC⟩ := Kd.R_reads h2
  injection e with e1
  rw [← e1, ints_length] at hC
  exact hC
theorem ex_idx48 {a : Act} {o : Oper} {x y : Operand} (ho : o.op = .indexAddr 48 x y) (w : World) (g k : Nat) (hx : a.eval x = .pointer (some ⟨g, 1, none⟩)) (hy : a.eval y = .int .i64 (k : Nat)) (hk : k < 12) :
    (execOp a.eval o).run Try.prog w = .ok (.value (.pointer (some ⟨g, 1 + k, none⟩))) w := by
  have h0 : (0 : Int) ≤ k := by omega
  have h1 : (k : Int) < 12 := by omega
  have hl : (Instr.indexAt 48 (.pointer (some ⟨g, 1, none⟩)) (.int .i64 (k : Nat))).run Try.prog w = .ok (.pointer (some ⟨g, 1 + k, none⟩)) w := by go_simp
  unfold execOp
  simp [ho, hx, hy, hl, Result.andThen]
theorem ex_idx25 {a : Act} {o : Oper} {x y : Operand} (ho : o.op = .indexAddr 25 x y) (w : World) (g k n c : Nat) (hx : a.eval x = .slice (some ⟨g, 0, none⟩) n c) (hy : a.eval y = .int .i64 (k : Nat)) (hk : k < n) :
    (execOp a.eval o).run Try.prog w = .ok (.value (.pointer (some ⟨g, k, none⟩))) w := by
  have h0 : (0 : Int) ≤ k := by omega
  have h1 : (k : Int) < n := by omega
  have hl : (Instr.indexAt 25 (.slice (some ⟨g, 0, none⟩) n c) (.int .i64 (k : Nat))).run Try.prog w = .ok (.pointer (some ⟨g, k, none⟩)) w := by go_simp
  unfold execOp
  simp [ho, hx, hy, hl, Result.andThen]
def RanksPost (n : Int) (l : List S43) (w : World) (e : Ending) (w' : World) : Prop :=
  if ofE n l = 0 then FoundE w (rankF (townO l) n.toNat []) e w'
  else e = .returned (.tuple #[.slice none 0 0, .int .i64 (ofE n l)]) ∧ Below w.heap.size w w'
theorem cf47 (args : Array Value) (w : World) : (callFunc 47 args).run Try.prog w = .ok (.enter 47 args) w := by kernel_rfl

set_option maxHeartbeats 3200000 in
set_option maxRecDepth 100000 in
theorem Ranks_any (n : Int) (A : Option Addr) (c : Nat) (l : List S43) (w : World) (hr : Kd.C k43 w A l.length l) (hc : l.length ≤ c) :
    Calls Try.prog 16 #[.int .i64 n, .slice A l.length c] w (RanksPost n l w) := by
  have hmf : ∀ (fn : Fn) (first cap : Array Value) (w : World), (Instr.makeFunc fn first cap).run Try.prog w = .ok (.func fn first cap) w := fun _ _ _ _ => rfl
  have hsf := fun (a : Addr) (c : Array Value) (w : World) => run_store Try.prog w a (.func (.func 47) #[] c) .plain rfl
  have qn : ∀ (w : World) (a : Option Addr) (n c n' c' : Nat), (binOp .neq 25 (.slice a n c) (.slice none n' c')).run Try.prog w = .ok (.bool (!a.isNone)) w := fun w a n c n' c' => run_neq_slice_nil_any w _ _ a n c n' c' Try.underlying25
  have HO := Aside0.mk (fun w h => of_A n A c l w h hc)
  have HZ := Aside0.mk (ofA_size n l)
  have H1 := Aside0.mk (ofA_one n l)
  have HB0 := Aside0.mk (below_alloc (Below.refl _ w) (.cells #[.int .i64 n] 3))
  have HC0 := Aside0.mk (Kd.C_below hr HB0.out)
  have HN0 := Aside0.mk (Blk.new w 3 #[.int .i64 n])
  clear hr hc
  by_cases he : ofE n l = 0
  · have ok := okt_of he
    have hA : ofA n l = tnN n.toNat (townO l) := by rw [ofA, if_pos he]
    have hK : RanksPost n l w = FoundE w (rankF (townO l) n.toNat []) := by funext e w'; simp [RanksPost, he]
    have hnn := (ofE_ok he).1
    rw [hK]
    rw [hA] at HO HZ H1
    rw [he] at HO
    clear he hA hK
    generalize townO l = o at *
    obtain ⟨m, rfl⟩ : ∃ m : Nat, n = m := ⟨n.toNat, by omega⟩
    rw [Int.toNat_natCast] at *
    have HK := Aside0.mk ok
    have n12 := ok.n12
    have hmk := print_make (P := Try.prog) 25 3 .i64 8 Try.underlying25 info3 (by decide) m (by omega)
    simp only [numsA_zero] at hmk
    obtain ⟨R, hR⟩ : ∃ R, rankF o m [] = R := ⟨_, rfl⟩
    rw [hR]
    have HR := Aside0.mk hR
    clear ok hnn hR
    go_enter Try.func16, Try.ntmps16
    go_wp2_with fail
    refine (HO.out _ HC0.out).mono ?_
    rintro e w1 ⟨rfl, hb⟩
    have HB := Aside0.mk (below_then HB0.out HB0.out.size hb)
    have HN1 := Aside0.mk (HN0.out.later hb)
    have cn := HN1.out.cell 0
    simp only [List.getElem?_toArray, List.getElem?_cons_zero] at cn
    clear hb HO
    have cn1 : (w1.alloc (.cells (tnN m o) 50)).cell? ⟨w.heap.size, 0, none⟩ = some (.int .i64 (m : Nat)) := (HN1.out.alloc _).cell 0
    have cn2 : (((w1.alloc (.cells (tnN m o) 50)).alloc (.cells (numsA (List.replicate m 0)) 3)).alloc (.cells #[.slice (some ⟨w1.heap.size + 1, 0, none⟩) m m] 25)).cell? ⟨w.heap.size, 0, none⟩ = some (.int .i64 (m : Nat)) := (((HN1.out.alloc _).alloc _).alloc _).cell 0
    clear cn
    have HB2 : Aside0 (Below w.heap.size w (((w1.alloc (.cells (tnN m o) 50)).alloc (.cells (numsA (List.replicate m 0)) 3)).alloc (.cells #[.slice (some ⟨w1.heap.size + 1, 0, none⟩) m m] 25))) := ⟨below_alloc (below_alloc (below_alloc HB.out _) _) _⟩
    have HT2 : Aside0 (TnN (((w1.alloc (.cells (tnN m o) 50)).alloc (.cells (numsA (List.replicate m 0)) 3)).alloc (.cells #[.slice (some ⟨w1.heap.size + 1, 0, none⟩) m m] 25)) w1.heap.size m o) := ⟨((Blk.new w1 50 (tnN m o)).alloc _).alloc _⟩
    have HM2 : Aside0 (Blk (((w1.alloc (.cells (tnN m o) 50)).alloc (.cells (numsA (List.replicate m 0)) 3)).alloc (.cells #[.slice (some ⟨w1.heap.size + 1, 0, none⟩) m m] 25)) (w1.heap.size + 1) 3 (numsA (fillTo (mosts m o) 0))) := ⟨by rw [fillTo_zero, mosts_len]; exact (Blk.new' (by simp)).alloc _⟩
    have HV2 : Aside0 (Blk (((w1.alloc (.cells (tnN m o) 50)).alloc (.cells (numsA (List.replicate m 0)) 3)).alloc (.cells #[.slice (some ⟨w1.heap.size + 1, 0, none⟩) m m] 25)) (w1.heap.size + 1 + 1) 25 #[.slice (some ⟨w1.heap.size + 1, 0, none⟩) m m]) := ⟨Blk.new' (by simp)⟩
    have HN2 : Aside0 (Blk (((w1.alloc (.cells (tnN m o) 50)).alloc (.cells (numsA (List.replicate m 0)) 3)).alloc (.cells #[.slice (some ⟨w1.heap.size + 1, 0, none⟩) m m] 25)) w.heap.size 3 #[.int .i64 (m : Nat)]) := ⟨((HN1.out.alloc _).alloc _).alloc _⟩
    have HD : Aside0 (w1.heap.size ≠ w1.heap.size + 1 ∧ w1.heap.size + 1 + 1 ≠ w1.heap.size + 1 ∧ w.heap.size ≠ w1.heap.size + 1 ∧ w.heap.size ≤ w1.heap.size + 1) := ⟨by have := HB.out.size; omega⟩
    go_wp2_with (refine wpList_store_row rfl 50 _ _ rfl w1.heap.size (tnN m o) rfl rfl 50 (tnN 0 zero12) (heap_alloc_new w1 _) (by rw [info50, HZ.out]) (by rw [HZ.out]; rfl) H1.out ?_; rw [World.setRow_alloc_new])
    clear cn1 cn2 hmk HN1 HB HB0 HC0 HN0
    generalize w1.heap.size + 1 + 1 = g8 at *
    generalize w1.heap.size + 1 = gm at *
    generalize w1.heap.size = g6 at *
    generalize ((w1.alloc (.cells (tnN m o) 50)).alloc (.cells (numsA (List.replicate m 0)) 3)).alloc (.cells #[.slice (some ⟨gm, 0, none⟩) m m] 25) = W2 at *
    go_loopw [24] (fun v wr => ∃ k : Nat, k ≤ m ∧ v = .int .i64 (k : Int) ∧ Aside0 (Below w.heap.size w wr) ∧ Aside0 (TnN wr g6 m o) ∧ Aside0 (Blk wr g8 25 #[.slice (some ⟨gm, 0, none⟩) m m]) ∧ Aside0 (Blk wr w.heap.size 3 #[.int .i64 (m : Nat)]) ∧ Aside0 (Blk wr gm 3 (numsA (fillTo (mosts m o) k)))) (fun v _ => m - (intOf v).toNat)
    case atStart => exact ⟨0, Nat.zero_le _, rfl, HB2, HT2, HV2, HN2, HM2⟩
    case round =>
      obtain ⟨k, hk, rfl, HBr, HTr, HVr, HN, HMM⟩ := hrel
      by_cases hkl : k < m
      · obtain ⟨nx, hnx⟩ : ∃ nx, o.getD k 0 = nx := ⟨_, rfl⟩
        have hn4 : nx < 4096 := by rw [← hnx]; exact Nat.lt_of_lt_of_le (HK.out.lt _) (Nat.pow_le_pow_right (by decide) HK.out.n12 : 2 ^ m ≤ 2 ^ 12)
        have HNX := Aside0.mk hnx
        have HM := Aside0.mk (fun w => members_any nx w hn4)
        obtain ⟨M, hM⟩ : ∃ M, mem12 nx 0 = M := ⟨_, rfl⟩
        have HMl : Aside0 ((memL nx).length = M.length) := ⟨by rw [← hM]; rfl⟩
        rw [hM] at HM
        have hlm : (ints M).length = M.length := ints_length M
        have hS0 : Aside0 (TnN wr.drew g6 m o ∧ Blk wr.drew g8 25 #[.slice (some ⟨gm, 0, none⟩) m m] ∧ Below w.heap.size w wr.drew) := ⟨HTr.out, HVr.out, below_drew HBr.out⟩
        clear hnx hM
        go_wp2_with fail
        refine wp_region_held (S := fun wx => TnN wx g6 m o ∧ Blk wx g8 25 #[.slice (some ⟨gm, 0, none⟩) m m] ∧ Below w.heap.size w wx) (by kernel_rfl) ?_
        refine tk (i := 0) 27 (v := .slice (some ⟨gm, 0, none⟩) m m) rfl rfl (by kernel_rfl) (by kernel_rfl) (by kernel_rfl) (fun _ _ _ h => h) (by kernel_rfl) (fun wx h => ex_load1 rfl wx ⟨g8, 0, none⟩ _ rfl (h.2.1.cell 0) (fun w => by kernel_rfl)) hS0.out ?_
        simp only [pt_lit, List.set_cons_succ, List.set_cons_zero]
        refine tk (i := 1) 28 (v := .int .i64 (k : Nat)) rfl rfl (by kernel_rfl) (by kernel_rfl) (by kernel_rfl) (fun _ _ _ h => h) (by kernel_rfl) (fun wx _ => by kernel_rfl) hS0.out ?_
        simp only [pt_lit, List.set_cons_succ, List.set_cons_zero]
        refine tk (i := 2) 29 (v := .int .i64 (k : Nat)) rfl rfl (by kernel_rfl) (by kernel_rfl) (by kernel_rfl) (fun _ _ _ h => h) (by kernel_rfl) (fun wx _ => by kernel_rfl) hS0.out ?_
        simp only [pt_lit, List.set_cons_succ, List.set_cons_zero]
        refine tk (i := 3) 30 (v := .pointer (some ⟨g6, 1, none⟩)) rfl rfl (by kernel_rfl) (by kernel_rfl) (by kernel_rfl) (fun _ _ _ h => h) (by kernel_rfl) (fun wx _ => by kernel_rfl) hS0.out ?_
        simp only [pt_lit, List.set_cons_succ, List.set_cons_zero]
        refine tk (i := 4) 31 (v := .pointer (some ⟨g6, 1 + k, none⟩)) rfl rfl (by kernel_rfl) (by kernel_rfl) (by kernel_rfl) (fun _ _ _ h => h) (by kernel_rfl) (fun wx _ => ex_idx48 rfl wx g6 k rfl rfl (by omega)) hS0.out ?_
        simp only [pt_lit, List.set_cons_succ, List.set_cons_zero]
        refine tk (i := 5) 32 (v := .int .i64 (nx : Nat)) rfl rfl (by kernel_rfl) (by kernel_rfl) (by kernel_rfl) (fun _ _ _ h => h) (by kernel_rfl) (fun wx h => ex_load1 rfl wx ⟨g6, 1 + k, none⟩ _ rfl ((by rw [Nat.add_comm, ← HNX.out]; exact TnN.cellS h.1 k (by rw [HK.out.len]; omega))) (fun w => by kernel_rfl)) hS0.out ?_
        simp only [pt_lit, List.set_cons_succ, List.set_cons_zero]
        refine rc (i := 6) 33 (f := 46) (args := #[.int .i64 (nx : Nat)]) (by kernel_rfl) rfl rfl (by kernel_rfl) (by kernel_rfl) ?_
        refine (HM.out _).mono ?_
        rintro e w3 ⟨v3, rfl, hr3, hb3⟩
        obtain ⟨A3, c3, rfl, hl3, hC3⟩ := Kd.R_reads hr3
        have hS3 : Aside0 (TnN w3 g6 m o ∧ Blk w3 g8 25 #[.slice (some ⟨gm, 0, none⟩) m m] ∧ Below w.heap.size w w3) := ⟨Blk.later hS0.out.1 hb3, hS0.out.2.1.later hb3, below_then hS0.out.2.2 hS0.out.2.2.size hb3⟩
        have hM3 := Aside0.mk (Blk.later (Blk.drew HMM.out) hb3)
        have hN3 := Aside0.mk (Blk.later (Blk.drew HN.out) hb3)
        refine ⟨_, rfl, hS3.out, ?_⟩
        rw [hlm]
        clear hr3 hb3 hC3 hl3
        simp only [pt_lit, List.set_cons_succ, List.set_cons_zero]
        refine tk (i := 7) 34 (v := .int .i64 (M.length : Nat)) rfl rfl (by kernel_rfl) (by kernel_rfl) (by kernel_rfl) (fun _ _ _ h => h) (by kernel_rfl) (fun wx _ => by kernel_rfl) hS3.out ?_
        simp only [pt_lit, List.set_cons_succ, List.set_cons_zero]
        refine tk (i := 8) 35 (v := .pointer (some ⟨gm, k, none⟩)) rfl rfl (by kernel_rfl) (by kernel_rfl) (by kernel_rfl) (fun _ _ _ h => h) (by kernel_rfl) (fun wx _ => ex_idx25 rfl wx gm k m m rfl rfl (by omega)) hS3.out ?_
        simp only [pt_lit, List.set_cons_succ, List.set_cons_zero]
        refine rs (i := 9) (w' := w3.setCell ⟨gm, k, none⟩ (.int .i64 (M.length : Nat))) (by kernel_rfl) rfl rfl (by kernel_rfl) (ex_store1 rfl w3 ⟨gm, k, none⟩ _ _ rfl rfl ((hM3.out.cell k).trans (numsA_get _ k (by rw [fillTo_len _ _ (by rw [mosts_len]; omega), mosts_len]; omega))) (hM3.out.frozen k)) ⟨hS3.out.1.far HD.out.1 _, hS3.out.2.1.far HD.out.2.1 _, hS3.out.2.2.grown (gb_set _ _ _) hS3.out.2.2.size (fun g h => by cases h; exact HD.out.2.2.2)⟩ ?_
        skip
        refine wpAnyH_done (by kernel_rfl) ?_ _
        have hB5 : Aside0 (Below w.heap.size w (w3.setCell ⟨gm, k, none⟩ (.int .i64 (M.length : Nat)))) := ⟨hS3.out.2.2.grown (gb_set _ _ _) hS3.out.2.2.size (fun g h => by cases h; exact HD.out.2.2.2)⟩
        have hT5 : Aside0 (TnN (w3.setCell ⟨gm, k, none⟩ (.int .i64 (M.length : Nat))) g6 m o) := ⟨hS3.out.1.far HD.out.1 _⟩
        have hV5 : Aside0 (Blk (w3.setCell ⟨gm, k, none⟩ (.int .i64 (M.length : Nat))) g8 25 #[.slice (some ⟨gm, 0, none⟩) m m]) := ⟨hS3.out.2.1.far HD.out.2.1 _⟩
        have hN5 : Aside0 (Blk (w3.setCell ⟨gm, k, none⟩ (.int .i64 (M.length : Nat))) w.heap.size 3 #[.int .i64 (m : Nat)]) := ⟨hN3.out.far HD.out.2.2.1 _⟩
        have hM5 : Aside0 (Blk (w3.setCell ⟨gm, k, none⟩ (.int .i64 (M.length : Nat))) gm 3 (numsA (fillTo (mosts m o) (k + 1)))) := ⟨by
          have h5 := Blk.set_ hM3.out k (.int .i64 (M.length : Nat))
          rw [numsA_set] at h5
          have h6 := fillTo_set (mosts m o) k (by rw [mosts_len]; omega)
          rw [mosts_get m o k (by omega), HNX.out, HMl.out] at h6
          rw [h6] at h5
          exact h5⟩
        generalize w3.setCell ⟨gm, k, none⟩ (.int .i64 (M.length : Nat)) = w5 at *
        clear hS3 hM3 hN3 hS0 HMM HN
        go_wp2_with fail
        go_roundw
        case rel => exact ⟨k + 1, by omega, by go_num, hB5, hT5, hV5, hN5, hM5⟩
        case measure => simp [intOf]; omega
      · obtain rfl : k = m := by omega
        have hfa : fillTo (mosts k o) k = mosts k o := by have := fillTo_all (mosts k o); rwa [mosts_len] at this
        have hM1 := HMM.out
        rw [hfa] at hM1
        have hb9 : Below wr.heap.size wr (wr.alloc (.cells #[.func (.func 47) #[] #[.pointer (some ⟨w.heap.size, 0, none⟩), .pointer (some ⟨g6, 0, none⟩), .pointer (some ⟨g8, 0, none⟩), .pointer (some ⟨wr.heap.size, 0, none⟩)]] 54)) := below_alloc (Below.refl _ _) _
        have hC9 := C_nums (hM1.later hb9) (by rw [mosts_len]; omega)
        rw [mosts_len] at hC9
        have hRB : RankB (wr.alloc (.cells #[.func (.func 47) #[] #[.pointer (some ⟨w.heap.size, 0, none⟩), .pointer (some ⟨g6, 0, none⟩), .pointer (some ⟨g8, 0, none⟩), .pointer (some ⟨wr.heap.size, 0, none⟩)]] 54)) w.heap.size g6 g8 gm wr.heap.size k o :=
          ⟨HN.out.later hb9, Blk.later HTr.out hb9, HVr.out.later hb9, hC9, Blk.new _ _ _⟩
        have hI := rank1_any w.heap.size g6 g8 gm wr.heap.size k o HK.out k [] none 0 _ (by simp) (fun x hx => by cases hx) hRB (C_nil _) (fun _ => rfl) (by simp)
        rw [HR.out] at hI
        have HI := Aside0.mk hI
        have HB9 := Aside0.mk (below_then HBr.out HBr.out.size hb9)
        clear hI hRB hC9 hb9 hM1 hfa
        go_wp2_with fail
        refine HI.out.mono ?_
        cases R with
        | none =>
          rintro e w6 ⟨rfl, hb6⟩
          have HB6 := Aside0.mk (below_then HB9.out HB9.out.size hb6)
          clear hb6
          go_wp2_with fail
          go_ret2
          exact ⟨rfl, HB6.out⟩
        | some res =>
          rintro e w6 ⟨A6, c6, rfl, hl6, hC6, hb6⟩
          have HB6 := Aside0.mk (below_then HB9.out HB9.out.size hb6)
          have HC6 := Aside0.mk hC6
          have HL6 := Aside0.mk hl6
          clear hb6 hC6 hl6
          go_wp2_with fail
          go_ret2
          exact ⟨A6, c6, rfl, HL6.out, HC6.out, HB6.out⟩
  · have hK : RanksPost n l w = fun e w' => e = .returned (.tuple #[.slice none 0 0, .int .i64 (ofE n l)]) ∧ Below w.heap.size w w' := by funext e w'; simp [RanksPost, he]
    rw [hK]
    have hb : (ofE n l != 0) = true := bne_iff_ne.2 he
    have hb' : (ofE n l == 0) = false := beq_eq_false_iff_ne.2 he
    clear hK he
    generalize ofE n l = er at *
    go_enter Try.func16, Try.ntmps16
    go_wp2_with fail
    refine (HO.out _ HC0.out).mono ?_
    rintro e w1 ⟨rfl, hb⟩
    have HB := Aside0.mk (below_then HB0.out HB0.out.size hb)
    clear hb HO
    go_wp2_with (refine wpList_store_row rfl 50 _ _ rfl w1.heap.size (ofA n l) rfl rfl 50 (tnN 0 zero12) (heap_alloc_new w1 _) (by rw [info50, HZ.out]) (by rw [HZ.out]; rfl) H1.out ?_)
    go_ret2
    exact ⟨rfl, by rw [World.setRow_alloc_new]; exact below_alloc HB.out _⟩
end Go.Proofs.Ytmobefgnkiboaaa.Im
