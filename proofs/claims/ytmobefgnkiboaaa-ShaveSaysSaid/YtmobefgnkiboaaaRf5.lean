/- The specification's sentences. -/
import Derived.Test.YtmobefgnkiboaaaIm7
import Derived.Test.YtmobefgnkiboaaaLw0
namespace Go.Proofs.Ytmobefgnkiboaaa.Im
open Go.RowKit Go.Proofs.YtmobefgnkiboaaaW.PrintWords Go.Proofs.YtmobefgnkiboaaaW.PrintLast Go.Proofs.YtmobefgnkiboaaaW.PrintMore
set_option linter.unusedVariables false

theorem str_letter (j : Nat) (hj : j < 12) : strOfNums ([(wrap64 (97 + (j : Int))) % 256] : List Int) = bytesA [letB j] := by
  have e : wrap64 (97 + (j : Int)) % 256 = ((97 + j : Nat) : Int) := by unfold wrap64; omega
  rw [e]
  show (⟨([((97 + j : Nat) : Int)].map fun n => UInt8.ofNat n.toNat).toArray⟩ : ByteArray) = ⟨[letB j].toArray⟩
  rw [List.map_cons, List.map_nil, Int.toNat_natCast]
  rfl
theorem frm_one (M : List Nat) : (bytesA (frmL M)).toList = ([49] : List UInt8) ↔ M = [] := by
  rw [bytesA, ByteArray.toList_mk]
  match M with
  | [] => simp [frmL]
  | [j] => simp [frmL]
  | j :: k :: r => simp [frmL]
theorem Sent_l1 (a0 : Int) (T : List Int) (acc : List ByteArray) (x9 : Int) (M : List Nat) (hM : ∀ x ∈ M, x < 12) (hl : M.length ≤ 12) (R : List ByteArray × Int)
    (hg : Gives (fun k => if ((bytesA (frmL M)).size : Int) > 40 then some (([] : List ByteArray), (8 : Int)) else if acc.length < 8796093022208 then pomaderef02_Sentences.l0 k a0 T (acc ++ [bytesA (frmL M)]) (wrap64 (x9 + 1)) else none) R) :
    ∀ (q : Nat), q ≤ M.length → Gives (fun k => pomaderef02_Sentences.l1 k a0 T acc x9 (ints M) (bytesA (frmL (M.drop q))) ((q : Int) - 1)) R
  | 0, hq => hg.step fun k hk => by
    simp only [pomaderef02_Sentences.l1]
    rw [if_neg (by omega)]
    exact hk
  | q + 1, hq => by
    have hml := ints_length M
    have ih := Sent_l1 a0 T acc x9 M hM hl R hg q (by omega)
    have hj : M.getD q 0 < 12 := by
      rw [List.getD_eq_getElem?_getD, List.getElem?_eq_getElem (by omega)]
      exact hM _ (List.getElem_mem _)
    have hd : M.drop q = M.getD q 0 :: M.drop (q + 1) := by
      rw [List.drop_eq_getElem_cons (by omega)]
      congr 1
      rw [List.getD_eq_getElem?_getD, List.getElem?_eq_getElem (by omega)]; rfl
    have hf := frmL_len (M.drop (q + 1))
    have hdl : (M.drop (q + 1)).length ≤ 12 := by rw [List.length_drop]; omega
    refine ih.step fun k hk => ?_
    have e : ((q + 1 : Nat) : Int) - 1 = (q : Int) := by omega
    have ew : wrap64 ((q : Int) - 1) = (q : Int) - 1 := by unfold wrap64; omega
    simp only [pomaderef02_Sentences.l1]
    rw [e, if_pos (by omega), if_pos (by omega), if_pos (by omega), Option.bind_some, rd_ints, str_letter _ hj, if_pos (by rw [bytesA_size]; simp)]
    have e33 : (⟨#[33]⟩ : ByteArray) ++ bytesA [letB (M.getD q 0)] = bytesA [33, letB (M.getD q 0)] := bytesA_append [33] _
    rw [e33, ew]
    by_cases hz : M.drop (q + 1) = []
    · rw [if_pos ((frm_one _).2 hz)]
      have hq1 : q + 1 = M.length := by have := List.drop_eq_nil_iff.1 hz; omega
      rw [frm_last M q _ hd hq1] at hk
      exact hk
    · rw [if_neg (fun h => hz ((frm_one _).1 h))]
      have hq1 : q + 1 < M.length := by
        rcases Nat.lt_or_ge (q + 1) M.length with h | h
        · exact h
        · exact absurd (List.drop_eq_nil_iff.2 h) hz
      have e40 : (⟨#[40]⟩ : ByteArray) = bytesA [40] := rfl
      have e38 : (⟨#[38]⟩ : ByteArray) = bytesA [38] := rfl
      have e41 : (⟨#[41]⟩ : ByteArray) = bytesA [41] := rfl
      rw [e40, e38, e41]
      simp only [bytesA_append, bytesA_size]
      rw [if_pos (by simp), if_pos (by simp), if_pos (by simp; omega), if_pos (by simp; omega)]
      rw [frm_step M q _ hd hq1] at hk
      exact hk
theorem Sent_l0 (n : Nat) (o : List Nat) (ok : Okt n o) : ∀ (d a : Nat), a + d = n → (List.range a).all (fun i => decide ((sentB o i).size ≤ 40)) = true →
    Gives (fun k => pomaderef02_Sentences.l0 k n (ints (o.take n)) ((List.range a).map (sentB o)) a) (match sentAll n o with | some L => (L, 0) | none => ([], 8))
  | 0, a, h, hp => Gives.now fun k => by
    obtain rfl : a = n := by omega
    simp only [pomaderef02_Sentences.l0]
    rw [if_neg (by omega)]
    simp only [sentAll, hp, if_true]
  | d + 1, a, h, hp => by
    have n12 := ok.n12
    have hTl := takes_len ok
    have hm : o.getD a 0 < 4096 := Nat.lt_of_lt_of_le (ok.lt _) (Nat.pow_le_pow_right (by decide) ok.n12 : 2 ^ n ≤ 2 ^ 12)
    have hml := memL_len (o.getD a 0)
    have hlen : (((memL (o.getD a 0)).length : Nat) : Int) - 1 = ((memL (o.getD a 0)).length : Int) - 1 := rfl
    have hl1 := Sent_l1 n (ints (o.take n)) ((List.range a).map (sentB o)) a (memL (o.getD a 0)) (fun x hx => memL_lt hx) hml (match sentAll n o with | some L => (L, 0) | none => ([], 8))
      (by
        by_cases hs : (sentB o a).size ≤ 40
        · have hp' : (List.range (a + 1)).all (fun i => decide ((sentB o i).size ≤ 40)) = true := by
            rw [List.range_succ, List.all_append, hp]; simpa using hs
          refine (Sent_l0 n o ok d (a + 1) (by omega) hp').map fun k hk => ?_
          have hs' : ¬ (((bytesA (frmL (memL (o.getD a 0)))).size : Int) > 40) := by
            have : (sentB o a) = bytesA (frmL (memL (o.getD a 0))) := rfl
            rw [← this]; omega
          rw [if_neg hs', if_pos (by simp; omega), wr_succ a (by omega)]
          rw [List.range_succ, List.map_append] at hk
          exact hk
        · refine Gives.all fun k => ?_
          have hs' : (((bytesA (frmL (memL (o.getD a 0)))).size : Int) > 40) := by
            have : (sentB o a) = bytesA (frmL (memL (o.getD a 0))) := rfl
            rw [← this]; omega
          rw [if_pos hs']
          have : (List.range n).all (fun i => decide ((sentB o i).size ≤ 40)) = false := by
            rw [List.all_eq_false]
            exact ⟨a, List.mem_range.2 (by omega), by simpa using hs⟩
          simp only [sentAll, this]
          rfl)
      (memL (o.getD a 0)).length (Nat.le_refl _)
    rw [List.drop_length] at hl1
    refine hl1.step2 (members_g _ hm) fun k hk1 hk2 => ?_
    simp only [pomaderef02_Sentences.l0]
    have ew : wrap64 (((memL (o.getD a 0)).length : Int) - 1) = ((memL (o.getD a 0)).length : Int) - 1 := by unfold wrap64; omega
    rw [if_pos (by omega), if_pos (by omega), if_pos (by omega), rd_takes o n a (by omega), hk2, Option.bind_some, ints_length, ew]
    exact hk1
theorem Sent_g (n : Int) (l : List S43) : Gives (fun k => pomaderef02_Sentences.f k n l)
    (if ofE n l = 0 then (match (if 10 < n then none else sentAll n.toNat (townO l)) with | some L => (L, 0) | none => ([], 8)) else ([], ofE n l)) := by
  by_cases he : ofE n l = 0
  · have hn := (ofE_ok he).1
    obtain ⟨m, rfl⟩ : ∃ m : Nat, n = m := ⟨n.toNat, by omega⟩
    have hT := Town_g m l
    rw [if_pos he] at hT
    rw [if_pos he]
    by_cases h10 : 10 < (m : Int)
    · rw [if_pos h10]
      refine hT.map fun k hk => ?_
      simp only [pomaderef02_Sentences.f]
      rw [hk, Option.bind_some, if_pos rfl, if_pos h10]
    · rw [if_neg h10]
      have h0 := Sent_l0 m (townO l) (okt_of he) m 0 (by omega) rfl
      refine hT.map2 h0 fun k hk hk2 => ?_
      simp only [pomaderef02_Sentences.f]
      rw [hk, Option.bind_some, if_pos rfl, if_neg h10]
      exact hk2
  · have hT := Town_g n l
    rw [if_neg he] at hT
    rw [if_neg he]
    refine hT.map fun k hk => ?_
    simp only [pomaderef02_Sentences.f]
    rw [hk, Option.bind_some, if_neg he]
end Go.Proofs.Ytmobefgnkiboaaa.Im
