/- Further parts of the same walk: contracts of the functions that the law reaches, each under the conditions that it states. -/
import Derived.Test.YtlmgkmmdaecpdaaDoorC12L
import Derived.Carry
namespace Go.Proofs.YtlmgkmmdaecpdaaDoor.Im
open Go.RowKit Go.Proofs.YtlmgkmmdaecpdaaDoorW.PrintWords Go.Proofs.YtlmgkmmdaecpdaaDoorW.PrintLast Go.Proofs.YtlmgkmmdaecpdaaDoorW.PrintMore Go.Proofs.YtlmgkmmdaecpdaaDoor.Mi
set_option linter.unusedVariables false
set_option linter.unusedSimpArgs false
def b012 : ByteArray := ⟨#[48, 49, 50]⟩
set_option maxHeartbeats 6400000 in
set_option maxRecDepth 100000 in
theorem of_bad (n : Int) (s : ByteArray) (w : World) (hs : s.size ≤ 9223372036854775807) (hE : triE n s ≠ 0) :
    Calls Tryd.prog 53 #[.int .i64 n, .string s] w (OfPost n s w) := by
  have HT := Aside0.mk (fun w1 => trim_any s w1 b012 hs (by decide) (by decide))
  unfold b012 at HT
  by_cases h1 : n < 1
  · have hE2 : triE n s = 2 := by unfold triE; rw [if_pos (.inl h1)]
    have HP : Aside0 (∀ w', Below w.heap.size w w' → OfPost n s w (.returned (.tuple #[.pointer none, .int .i64 2])) w') := ⟨fun w' hb => ⟨hb, by rw [hE2, if_neg (by omega)]⟩⟩
    clear hE hE2 HT
    go_enter Tryd.func53, Tryd.ntmps53
    go_wp2_with fail
    go_ret2
    exact HP.out _ (Below.refl _ _)
  · by_cases h2 : 20 < n
    · have hE2 : triE n s = 2 := by unfold triE; rw [if_pos (.inr h2)]
      have HP : Aside0 (∀ w', Below w.heap.size w w' → OfPost n s w (.returned (.tuple #[.pointer none, .int .i64 2])) w') := ⟨fun w' hb => ⟨hb, by rw [hE2, if_neg (by omega)]⟩⟩
      clear hE hE2 HT
      go_enter Tryd.func53, Tryd.ntmps53
      go_wp2_with fail
      go_ret2
      exact HP.out _ (Below.refl _ _)
    · obtain ⟨m, rfl⟩ : ∃ m : Nat, n = m := ⟨n.toNat, by omega⟩
      obtain ⟨K, hK⟩ : ∃ K, offT m (m + 1) = K := ⟨_, rfl⟩
      have hE2 : triE m s = 5 := by
        unfold triE at hE ⊢
        rw [if_neg (by omega)] at hE ⊢
        split at hE
        · exact absurd rfl hE
        · rename_i hx; rw [if_neg hx]
      have HP : Aside0 (∀ w', Below w.heap.size w w' → OfPost m s w (.returned (.tuple #[.pointer none, .int .i64 5])) w') := ⟨fun w' hb => ⟨hb, by rw [hE2, if_neg (by omega)]⟩⟩
      have hq0 : ((m : Int) + 1) * ((m : Int) + 2) = (((m + 1) * (m + 2) : Nat) : Int) := by push_cast; rfl
      have hmm : (m + 1) * (m + 2) ≤ 462 := Nat.mul_le_mul (show m + 1 ≤ 21 by omega) (show m + 2 ≤ 22 by omega)
      have hq : Int.tdiv (((m : Int) + 1) * ((m : Int) + 2)) 2 = (K : Int) := by
        rw [hq0, ← hK, offT_val m (by omega)]
        rfl
      have hw1 : wrap64 (((m : Int) + 1) * ((m : Int) + 2)) = ((m : Int) + 1) * ((m : Int) + 2) := by rw [hq0]; unfold wrap64; omega
      have hwK : wrap64 (K : Int) = (K : Int) := by have := offT_le (n := m) (by omega); unfold wrap64; omega
      by_cases h3 : s.size = K
      · have h3' : ((s.size : Int) == (K : Int)) = true := beq_iff_eq.2 (by omega)
        have h3'' : ((s.size : Int) != (K : Int)) = false := by rw [bne, h3']; rfl
        have hem : (⟨(Lib.trimS s.data.toList b012.data.toList).toArray⟩ : ByteArray).toList.isEmpty = false := by
          rw [ByteArray.toList_mk, Bool.eq_false_iff]
          intro h
          rw [List.isEmpty_iff, trim_nil] at h
          refine hE ?_
          unfold triE
          rw [if_neg (by omega), if_pos ⟨by rw [Int.toNat_natCast, hK]; exact h3, h⟩]
        unfold b012 at hem
        generalize (⟨(Lib.trimS s.data.toList (⟨#[48, 49, 50]⟩ : ByteArray).data.toList).toArray⟩ : ByteArray) = r at *
        clear hE hE2 hq0 hmm hK
        go_enter Tryd.func53, Tryd.ntmps53
        go_wp2_with fail
        refine (HT.out _).mono ?_
        rintro e w2 ⟨rfl, hb2⟩
        have HB := Aside0.mk hb2
        clear hb2
        go_wp2_with fail
        go_ret2
        exact HP.out _ HB.out
      · have h3' : ((s.size : Int) == (K : Int)) = false := beq_eq_false_iff_ne.2 (by omega)
        have h3'' : ((s.size : Int) != (K : Int)) = true := by rw [bne, h3']; rfl
        clear hE hE2 HT hq0 hmm hK
        go_enter Tryd.func53, Tryd.ntmps53
        go_wp2_with fail
        go_ret2
        exact HP.out _ (Below.refl _ _)
end Go.Proofs.YtlmgkmmdaecpdaaDoor.Im

namespace Go.Proofs.YtlmgkmmdaecpdaaDoor.Im
open Go.RowKit Go.Proofs.YtlmgkmmdaecpdaaDoorW.PrintWords Go.Proofs.YtlmgkmmdaecpdaaDoorW.PrintLast Go.Proofs.YtlmgkmmdaecpdaaDoorW.PrintMore Go.Proofs.YtlmgkmmdaecpdaaDoor.Mi
set_option linter.unusedVariables false
set_option linter.unusedSimpArgs false
structure OfI (n g mb r c : Nat) (l : List UInt8) (W0 : World) (D : DataW Unit) (wr : World) : Prop where
  keep : Keep (fun x => x ≠ mb) W0 wr
  own : wr.ownsMap Tryd.prog 95 (plainElem Tryd.prog 5) mb (offT n r + c) D
  all : TriI n l r c D
theorem OfI.step {n g mb r c : Nat} {l : List UInt8} {W0 wr w2 : World} {D : DataW Unit} (h : OfI n g mb r c l W0 D wr) (hn : n ≤ 20) (hr : r + c ≤ n)
    (ho : w2.ownsMap Tryd.prog 95 (plainElem Tryd.prog 5) mb (offT n r + c + 1) (D.put (kP r c) (.lit (.int .u8 (colT n l r c))))) (hg : wr.drew.grownBy w2 (some mb)) : OfI n g mb r (c + 1) l W0 (D.put (kP r c) (.lit (.int .u8 (colT n l r c)))) w2 :=
  ⟨(h.keep.trans (Keep.of_below (below_drew (Below.refl _ _)))).trans (Keep.of_grown hg (fun h => h rfl)), ho, h.all.put hn hr⟩
theorem OfI.row {n g mb r c : Nat} {l : List UInt8} {W0 wr : World} {D : DataW Unit} (h : OfI n g mb r c l W0 D wr) (hr : r ≤ n) (hc : c = n + 1 - r) : OfI n g mb (r + 1) 0 l W0 D wr :=
  ⟨h.keep, by rw [hc] at h; exact h.own, h.all.row (by omega)⟩
set_option maxHeartbeats 6400000 in
set_option maxRecDepth 100000 in
theorem of_good (n : Int) (s : ByteArray) (w : World) (hs : s.size ≤ 9223372036854775807) (hE : triE n s = 0) :
    Calls Tryd.prog 53 #[.int .i64 n, .string s] w (OfPost n s w) := by
  have HT := Aside0.mk (fun w1 => trim_any s w1 b012 hs (by decide) (by decide))
  have hok : 1 ≤ n ∧ n ≤ 20 ∧ s.size = offT n.toNat (n.toNat + 1) ∧ s.data.toList.all ([48, 49, 50].contains ·) = true := by
    unfold triE at hE
    split at hE
    · cases hE
    · split at hE
      · rename_i h1 h2; exact ⟨by omega, by omega, h2⟩
      · cases hE
  obtain ⟨h1, h2, h3, h4⟩ := hok
  obtain ⟨m, rfl⟩ : ∃ m : Nat, n = m := ⟨n.toNat, by omega⟩
  rw [Int.toNat_natCast] at h3
  have hem : (⟨(Lib.trimS s.data.toList b012.data.toList).toArray⟩ : ByteArray).toList.isEmpty = true := by
    rw [ByteArray.toList_mk, List.isEmpty_iff, trim_nil]
    exact h4
  unfold b012 at HT hem
  generalize (⟨(Lib.trimS s.data.toList (⟨#[48, 49, 50]⟩ : ByteArray).data.toList).toArray⟩ : ByteArray) = r at *
  have HE := Aside0.mk hE
  have HL : Aside0 (s.data.toList.length = offT m (m + 1)) := ⟨by rw [Array.length_toList]; exact h3⟩
  have HO : Aside0 (∀ b ∈ s.data.toList, b = 48 ∨ b = 49 ∨ b = 50) := ⟨fun b hb => by
    have := List.all_eq_true.1 h4 b hb
    simpa using this⟩
  obtain ⟨K, hK⟩ : ∃ K, offT m (m + 1) = K := ⟨_, rfl⟩
  have hq0 : ((m : Int) + 1) * ((m : Int) + 2) = (((m + 1) * (m + 2) : Nat) : Int) := by push_cast; rfl
  have hmm : (m + 1) * (m + 2) ≤ 462 := Nat.mul_le_mul (show m + 1 ≤ 21 by omega) (show m + 2 ≤ 22 by omega)
  have hq : Int.tdiv (((m : Int) + 1) * ((m : Int) + 2)) 2 = (K : Int) := by
    rw [hq0, ← hK, offT_val m (by omega)]
    rfl
  have hw1 : wrap64 (((m : Int) + 1) * ((m : Int) + 2)) = ((m : Int) + 1) * ((m : Int) + 2) := by rw [hq0]; unfold wrap64; omega
  have hwK : wrap64 (K : Int) = (K : Int) := by have := offT_le (n := m) (by omega); unfold wrap64; omega
  have h3' : ((s.size : Int) == (K : Int)) = true := beq_iff_eq.2 (by omega)
  have h3'' : ((s.size : Int) != (K : Int)) = false := by rw [bne, h3']; rfl
  have hsK : s.size = K := by omega
  have HK := Aside0.mk hK
  have hmk := @run_makeMap Tryd.prog
  have hval := fun (v : Int) (h : (Lit.int .u8 v).wf = true) => plainElem_int (H := Unit) (P := Tryd.prog) Tryd.underlying5 h
  clear hE h3 h4 hq0 hmm hK
  go_enter Tryd.func53, Tryd.ntmps53
  go_wp2_with fail
  refine (HT.out _).mono ?_
  rintro e w2 ⟨rfl, hb2⟩
  have HB := Aside0.mk hb2
  clear hb2
  go_wp2_with fail
  have hb3 : Below w2.heap.size w2 ((w2.alloc (.map #[] 0)).alloc (.cells #[.int .i64 (m : Nat), .map (some w2.heap.size)] 117)) := below_alloc (below_alloc (Below.refl _ _) _) _
  have HB3 := Aside0.mk (below_then HB.out HB.out.size hb3)
  have HZ := Aside0.mk (show w.heap.size ≤ w2.heap.size from HB.out.size)
  have hown : ((w2.alloc (.map #[] 0)).alloc (.cells #[.int .i64 (m : Nat), .map (some w2.heap.size)] 117)).ownsMap Tryd.prog 95 (plainElem Tryd.prog 5) w2.heap.size 0 (.map [] : DataW Unit) := (World.ownsMap_made w2 _ _ _).alloc _
  have HI0 : Aside0 (OfI m (w2.heap.size + 1) w2.heap.size 0 0 s.data.toList ((w2.alloc (.map #[] 0)).alloc (.cells #[.int .i64 (m : Nat), .map (some w2.heap.size)] 117)) (.map []) ((w2.alloc (.map #[] 0)).alloc (.cells #[.int .i64 (m : Nat), .map (some w2.heap.size)] 117))) := ⟨⟨Keep.refl _ _, hown, TriI.start _ _⟩⟩
  have HG0 : Aside0 (Blk ((w2.alloc (.map #[] 0)).alloc (.cells #[.int .i64 (m : Nat), .map (some w2.heap.size)] 117)) (w2.heap.size + 1) 117 #[.int .i64 (m : Nat), .map (some w2.heap.size)]) := ⟨Blk.new' (by simp)⟩
  obtain ⟨gm, hgm⟩ : ∃ gm, w2.heap.size = gm := ⟨_, rfl⟩
  rw [hgm] at HB3 HI0 HG0 HZ ⊢
  have HSK := Aside0.mk hsK
  clear hb3 hown hmk hem HB HT hsK h3' h3'' hq hw1 hwK
  generalize (w2.alloc (.map #[] 0)).alloc (.cells #[.int .i64 (m : Nat), .map (some gm)] 117) = W0 at *
  go_loopw [7, 38] (fun v7 v38 wr => ∃ (i : Nat) (D : DataW Unit), i ≤ m + 1 ∧ v38 = .int .i64 (i : Int) ∧ v7 = .int .i64 (offT m i : Nat) ∧ Aside0 (OfI m (gm + 1) gm i 0 s.data.toList W0 D wr)) (fun _ v _ => m + 1 - (intOf v).toNat)
  case atStart => exact ⟨0, _, Nat.zero_le _, rfl, rfl, HI0⟩
  case round =>
    clear HI0
    obtain ⟨i, D, hi, rfl, rfl, HI⟩ := hrel
    by_cases him : i < m + 1
    · have hom := offT_lt (n := m) (i := i) (j := 0) (by omega)
      have hol := offT_le (n := m) (by omega)
      have hdi : decide ((i : Int) < (m : Int) + 1) = true := decide_eq_true (by omega)
      go_wp2_with fail
      have hI1 : Aside0 (∃ D1 : DataW Unit, OfI m (gm + 1) gm i 0 s.data.toList W0 D1 wr) := ⟨⟨D, HI.out⟩⟩
      clear HI
      go_loopw [7, 45] (fun v7 v45 wr => ∃ (j : Nat) (D1 : DataW Unit), j ≤ m + 1 - i ∧ v45 = .int .i64 (j : Int) ∧ v7 = .int .i64 (offT m i + j : Nat) ∧ Aside0 (OfI m (gm + 1) gm i j s.data.toList W0 D1 wr)) (fun _ v _ => m + 1 - i - (intOf v).toNat)
      case atStart => obtain ⟨D1, h1⟩ := hI1.out; exact ⟨0, D1, Nat.zero_le _, rfl, rfl, ⟨h1⟩⟩
      case round =>
        clear hI1
        obtain ⟨j, D1, hj, rfl, rfl, HJ⟩ := hrel
        by_cases hjm : j < m + 1 - i
        · have hlt := offT_lt (n := m) (i := i) (j := j) (by omega)
          have hks : offT m i + j < s.size := by rw [HSK.out, ← HK.out]; exact hlt
          have k0 : (0 : Int) ≤ ((offT m i + j : Nat) : Int) := Int.natCast_nonneg _
          have k1 : ((offT m i + j : Nat) : Int) < (s.size : Int) := Int.ofNat_lt.2 hks
          have hcol : ((s[offT m i + j]'hks).toNat : Int) = colT m s.data.toList i j := by
            unfold colT
            have : s.data.toList.getD (offT m i + j) 0 = s[offT m i + j]'hks := by
              rw [List.getD_eq_getElem?_getD, Array.getElem?_toList, Array.getElem?_eq_getElem (show offT m i + j < s.data.size from hks)]
              rfl
            rw [this]
          have hgk := (HJ.out.keep.blk HG0.out (Nat.succ_ne_self gm))
          have y1 : wr.cell? ⟨gm + 1, 1, none⟩ = some (.map (some gm)) := hgk.cell 1
          have y1d : wr.drew.cell? ⟨gm + 1, 1, none⟩ = some (.map (some gm)) := y1
          have hown : wr.drew.ownsMap Tryd.prog 95 (plainElem Tryd.prog 5) gm (offT m i + j) D1 := HJ.out.own.drew
          have hlm : offT m i + j < maxLen := by
            have : maxLen = 9223372036854775807 := rfl
            have := offT_le (n := m) (by omega)
            omega
          have hkey := key_P (i := i) (j := j) (by omega) (by omega)
          have hv1 := hval ((s[offT m i + j]'hks).toNat : Int) (by
            have := (s[offT m i + j]'hks).toNat_lt
            simp [Lit.wf]
            constructor
            · exact Int.natCast_nonneg _
            · show _ ≤ (255 : Int)
              omega)
          have hv2 := hv1
          rw [hcol] at hv2
          have him2 : i ≤ 20 := by omega
          have hij : i + j ≤ m := by omega
          have HIJ := Aside0.mk hij
          have HM20 : Aside0 (m ≤ 20) := ⟨by omega⟩
          have HCOL := Aside0.mk hcol
          have hk1 : offT m i + j + 1 = offT m i + (j + 1) := rfl
          have hkl : offT m i + j ≤ 300 := by
            have := offT_le (n := m) (by omega)
            omega
          generalize hKK : offT m i + j = kk at *
          have hix : ∀ w : World, (Instr.index 9 (.string s) (.int .i64 (kk : Int))).run Tryd.prog w = .ok (.int .u8 ((s[kk]'hks).toNat : Int)) w := fun w => by
            have h := run_index_string (P := Tryd.prog) (w := w) 9 s .i64 (kk : Int) Tryd.underlying9
            rw [dif_pos (And.intro k0 k1)] at h
            exact h
          clear hgk hv2 hcol
          go_upto_region 13 with fail
          go_still_tail 10, (by kernel_rfl)
          go_wp2_with (at_mapUpdate; refine wpList_mapUpdate_own _ rfl _ _ _ 115 rfl 95 5 lawP Tryd.underlying115 _ gm kk D1 rfl hown hlm _ _ (kP i j) rfl rfl hkey (.lit (.int .u8 ((s[kk]'hks).toNat : Int))) [] hv1 ?_; intro w3 hown3 hg3; have HW3 := Aside0.mk hown3; have HG3 := Aside0.mk hg3; clear hown3 hg3)
          go_roundw
          case rel =>
            refine ⟨j + 1, D1.put (kP i j) (.lit (.int .u8 (colT m s.data.toList i j))), by omega, by go_num, by rw [← hk1]; go_num, ⟨?_⟩⟩
            rw [HCOL.out] at HW3
            have h3 := HW3.out
            rw [← hKK] at h3
            exact HJ.out.step HM20.out HIJ.out h3 HG3.out
          case measure => simp [intOf]; omega
        · obtain hjE : j = m + 1 - i := by omega
          have hoff : offT m i + j = offT m (i + 1) := by rw [hjE]; rfl
          rw [hoff]
          go_wp2_with fail
          go_roundw
          case rel => exact ⟨i + 1, D1, him, by go_num, rfl, ⟨HJ.out.row (by omega) hjE⟩⟩
          case measure => simp [intOf]; omega
    · obtain rfl : i = m + 1 := by omega
      go_wp2_with fail
      go_ret2
      have hkp : Keep (fun x => x ≠ gm) W0 wr := HI.out.keep
      refine ⟨HB3.out.trans (hkp.below (B := w.heap.size) HB3.out.size (fun x hx => by have := HZ.out; omega)), ?_⟩
      · rw [if_pos HE.out]
        exact ⟨gm + 1, gm, _, D, rfl, ⟨hkp.blk HG0.out (Nat.succ_ne_self gm), HI.out.own, HI.out.all, by omega, by omega, HL.out, HO.out⟩, by have := HZ.out; omega, HZ.out⟩
theorem of_any (n : Int) (s : ByteArray) (w : World) (hs : s.size ≤ 9223372036854775807) : Calls Tryd.prog 53 #[.int .i64 n, .string s] w (OfPost n s w) := by
  by_cases hE : triE n s = 0
  · exact of_good n s w hs hE
  · exact of_bad n s w hs hE
end Go.Proofs.YtlmgkmmdaecpdaaDoor.Im

namespace Go.Proofs.YtlmgkmmdaecpdaaDoor.Im
open Go.RowKit Go.Proofs.YtlmgkmmdaecpdaaDoorW.PrintWords Go.Proofs.YtlmgkmmdaecpdaaDoorW.PrintLast Go.Proofs.YtlmgkmmdaecpdaaDoorW.PrintMore Go.Proofs.YtlmgkmmdaecpdaaDoor.Mi
set_option linter.unusedVariables false
set_option linter.unusedSimpArgs false
theorem below_setg {g : Nat} {w w' : World} {i : Nat} (h : Below g w w') (v : Int) : Below g w (w'.setCell ⟨g + 1, i, none⟩ (.int .i64 v)) := h.setCell (Nat.le_succ g) _
set_option maxHeartbeats 6400000 in
set_option maxRecDepth 100000 in
theorem points_0 (i j : Nat) (w : World) (hi : i ≤ 20) (hj : j ≤ 20) :
    Calls Tryd.prog 83 #[.agg #[.int .i64 0, .int .i64 (i : Nat), .int .i64 (j : Nat)]] w fun e w' => e = .returned (.agg #[.int .i64 (i : Nat), .int .i64 (j : Nat), .int .i64 ((i : Int) + 1), .int .i64 (j : Nat), .int .i64 (i : Nat), .int .i64 ((j : Int) + 1)]) ∧ Below w.heap.size w w' := by
  go_enter Tryd.func83, Tryd.ntmps83
  go_wp2_with fail
  obtain ⟨g, hg⟩ : ∃ g, w.heap.size = g := ⟨_, rfl⟩
  have h1 : Blk ((w.alloc (.cells #[.int .i64 0, .int .i64 (i : Nat), .int .i64 (j : Nat)] 81)).alloc (.cells #[.int .i64 0, .int .i64 0, .int .i64 0, .int .i64 0, .int .i64 0, .int .i64 0] 118)) g 81 #[.int .i64 0, .int .i64 (i : Nat), .int .i64 (j : Nat)] := by rw [← hg]; exact (Blk.new w _ _).alloc _
  have h2 : Blk ((w.alloc (.cells #[.int .i64 0, .int .i64 (i : Nat), .int .i64 (j : Nat)] 81)).alloc (.cells #[.int .i64 0, .int .i64 0, .int .i64 0, .int .i64 0, .int .i64 0, .int .i64 0] 118)) (g + 1) 118 #[.int .i64 0, .int .i64 0, .int .i64 0, .int .i64 0, .int .i64 0, .int .i64 0] := by rw [← hg]; exact Blk.new' (by simp)
  have hb : Below w.heap.size w ((w.alloc (.cells #[.int .i64 0, .int .i64 (i : Nat), .int .i64 (j : Nat)] 81)).alloc (.cells #[.int .i64 0, .int .i64 0, .int .i64 0, .int .i64 0, .int .i64 0, .int .i64 0] 118)) := below_alloc (below_alloc (Below.refl _ _) _) _
  have H1 := Aside0.mk h1
  have H2 := Aside0.mk h2
  have HB := Aside0.mk hb
  rw [hg] at HB ⊢
  clear h1 h2 hb
  generalize (w.alloc (.cells #[.int .i64 0, .int .i64 (i : Nat), .int .i64 (j : Nat)] 81)).alloc (.cells #[.int .i64 0, .int .i64 0, .int .i64 0, .int .i64 0, .int .i64 0, .int .i64 0] 118) = W at *
  have c0 : W.cell? ⟨g, 0, none⟩ = some (.int .i64 0) := H1.out.cell 0
  have c1 : W.cell? ⟨g, 1, none⟩ = some (.int .i64 (i : Nat)) := H1.out.cell 1
  have c2 : W.cell? ⟨g, 2, none⟩ = some (.int .i64 (j : Nat)) := H1.out.cell 2
  go_quiet (fail)
  have f2 := fun (i : Nat) => (H2.out.drewN nq).frozen i
  have o0 : (W.drewN nq).cell? ⟨g + 1, 0, none⟩ = some (.int .i64 0) := (H2.out.drewN nq).cell 0
  have o1 : (W.drewN nq).cell? ⟨g + 1, 1, none⟩ = some (.int .i64 0) := (H2.out.drewN nq).cell 1
  have o2 : (W.drewN nq).cell? ⟨g + 1, 2, none⟩ = some (.int .i64 0) := (H2.out.drewN nq).cell 2
  have o3 : (W.drewN nq).cell? ⟨g + 1, 3, none⟩ = some (.int .i64 0) := (H2.out.drewN nq).cell 3
  have o4 : (W.drewN nq).cell? ⟨g + 1, 4, none⟩ = some (.int .i64 0) := (H2.out.drewN nq).cell 4
  have o5 : (W.drewN nq).cell? ⟨g + 1, 5, none⟩ = some (.int .i64 0) := (H2.out.drewN nq).cell 5
  go_wp2_with fail
  have hB := (((((((H2.out.drewN nq).set_ 0 (.int .i64 (i : Nat))).set_ 1 (.int .i64 (j : Nat))).set_ 2 (.int .i64 ((i : Int) + 1))).set_ 3 (.int .i64 (j : Nat))).set_ 4 (.int .i64 (i : Nat))).set_ 5 (.int .i64 ((j : Int) + 1)))
  have hBB := HB.out
  refine bodyPost_ret (results_cell_row rfl _ _ (g + 1) 118 #[.int .i64 (i : Nat), .int .i64 (j : Nat), .int .i64 ((i : Int) + 1), .int .i64 (j : Nat), .int .i64 (i : Nat), .int .i64 ((j : Int) + 1)] (0, 0) _ rfl hB Tryd.underlying118 rfl (by kernel_rfl)) rfl ?_
  refine ⟨rfl, ?_⟩
  rw [hg]
  exact below_setg (below_setg (below_setg (below_setg (below_setg (below_setg (pw_below_drewN hBB nq) _) _) _) _) _) _
set_option maxHeartbeats 6400000 in
set_option maxRecDepth 100000 in
theorem points_1 (i j : Nat) (w : World) (hi : i ≤ 20) (hj : j ≤ 20) :
    Calls Tryd.prog 83 #[.agg #[.int .i64 1, .int .i64 (i : Nat), .int .i64 (j : Nat)]] w fun e w' => e = .returned (.agg #[.int .i64 ((i : Int) + 1), .int .i64 (j : Nat), .int .i64 (i : Nat), .int .i64 ((j : Int) + 1), .int .i64 ((i : Int) + 1), .int .i64 ((j : Int) + 1)]) ∧ Below w.heap.size w w' := by
  go_enter Tryd.func83, Tryd.ntmps83
  go_wp2_with fail
  obtain ⟨g, hg⟩ : ∃ g, w.heap.size = g := ⟨_, rfl⟩
  have h1 : Blk ((w.alloc (.cells #[.int .i64 1, .int .i64 (i : Nat), .int .i64 (j : Nat)] 81)).alloc (.cells #[.int .i64 0, .int .i64 0, .int .i64 0, .int .i64 0, .int .i64 0, .int .i64 0] 118)) g 81 #[.int .i64 1, .int .i64 (i : Nat), .int .i64 (j : Nat)] := by rw [← hg]; exact (Blk.new w _ _).alloc _
  have h2 : Blk ((w.alloc (.cells #[.int .i64 1, .int .i64 (i : Nat), .int .i64 (j : Nat)] 81)).alloc (.cells #[.int .i64 0, .int .i64 0, .int .i64 0, .int .i64 0, .int .i64 0, .int .i64 0] 118)) (g + 1) 118 #[.int .i64 0, .int .i64 0, .int .i64 0, .int .i64 0, .int .i64 0, .int .i64 0] := by rw [← hg]; exact Blk.new' (by simp)
  have hb : Below w.heap.size w ((w.alloc (.cells #[.int .i64 1, .int .i64 (i : Nat), .int .i64 (j : Nat)] 81)).alloc (.cells #[.int .i64 0, .int .i64 0, .int .i64 0, .int .i64 0, .int .i64 0, .int .i64 0] 118)) := below_alloc (below_alloc (Below.refl _ _) _) _
  have H1 := Aside0.mk h1
  have H2 := Aside0.mk h2
  have HB := Aside0.mk hb
  rw [hg] at HB ⊢
  clear h1 h2 hb
  generalize (w.alloc (.cells #[.int .i64 1, .int .i64 (i : Nat), .int .i64 (j : Nat)] 81)).alloc (.cells #[.int .i64 0, .int .i64 0, .int .i64 0, .int .i64 0, .int .i64 0, .int .i64 0] 118) = W at *
  have c0 : W.cell? ⟨g, 0, none⟩ = some (.int .i64 1) := H1.out.cell 0
  have c1 : W.cell? ⟨g, 1, none⟩ = some (.int .i64 (i : Nat)) := H1.out.cell 1
  have c2 : W.cell? ⟨g, 2, none⟩ = some (.int .i64 (j : Nat)) := H1.out.cell 2
  go_quiet (fail)
  have f2 := fun (i : Nat) => (H2.out.drewN nq).frozen i
  have o0 : (W.drewN nq).cell? ⟨g + 1, 0, none⟩ = some (.int .i64 0) := (H2.out.drewN nq).cell 0
  have o1 : (W.drewN nq).cell? ⟨g + 1, 1, none⟩ = some (.int .i64 0) := (H2.out.drewN nq).cell 1
  have o2 : (W.drewN nq).cell? ⟨g + 1, 2, none⟩ = some (.int .i64 0) := (H2.out.drewN nq).cell 2
  have o3 : (W.drewN nq).cell? ⟨g + 1, 3, none⟩ = some (.int .i64 0) := (H2.out.drewN nq).cell 3
  have o4 : (W.drewN nq).cell? ⟨g + 1, 4, none⟩ = some (.int .i64 0) := (H2.out.drewN nq).cell 4
  have o5 : (W.drewN nq).cell? ⟨g + 1, 5, none⟩ = some (.int .i64 0) := (H2.out.drewN nq).cell 5
  go_wp2_with fail
  have hB := (((((((H2.out.drewN nq).set_ 0 (.int .i64 ((i : Int) + 1))).set_ 1 (.int .i64 (j : Nat))).set_ 2 (.int .i64 (i : Nat))).set_ 3 (.int .i64 ((j : Int) + 1))).set_ 4 (.int .i64 ((i : Int) + 1))).set_ 5 (.int .i64 ((j : Int) + 1)))
  have hBB := HB.out
  refine bodyPost_ret (results_cell_row rfl _ _ (g + 1) 118 #[.int .i64 ((i : Int) + 1), .int .i64 (j : Nat), .int .i64 (i : Nat), .int .i64 ((j : Int) + 1), .int .i64 ((i : Int) + 1), .int .i64 ((j : Int) + 1)] (0, 0) _ rfl hB Tryd.underlying118 rfl (by kernel_rfl)) rfl ?_
  refine ⟨rfl, ?_⟩
  rw [hg]
  exact below_setg (below_setg (below_setg (below_setg (below_setg (below_setg (pw_below_drewN hBB nq) _) _) _) _) _) _
end Go.Proofs.YtlmgkmmdaecpdaaDoor.Im

namespace Go.Proofs.YtlmgkmmdaecpdaaDoor.Im
open Go.RowKit Go.Proofs.YtlmgkmmdaecpdaaDoorW.PrintWords Go.Proofs.YtlmgkmmdaecpdaaDoorW.PrintLast Go.Proofs.YtlmgkmmdaecpdaaDoorW.PrintMore Go.Proofs.YtlmgkmmdaecpdaaDoor.Mi
set_option linter.unusedVariables false
set_option linter.unusedSimpArgs false
set_option maxHeartbeats 6400000 in
set_option maxRecDepth 100000 in
theorem corners_0 (i j : Nat) (w : World) (hi : i ≤ 20) (hj : j ≤ 20) :
    Calls Tryd.prog 72 #[.agg #[.int .i64 0, .int .i64 (i : Nat), .int .i64 (j : Nat)]] w fun e w' => e = .returned (.agg #[.int .i64 (i : Nat), .int .i64 (j : Nat), .int .i64 ((i : Int) + 1), .int .i64 (j : Nat), .int .i64 (i : Nat), .int .i64 ((j : Int) + 1)]) ∧ Below w.heap.size w w' := by
  go_enter Tryd.func72, Tryd.ntmps72
  go_upto_region 1 with fail
  obtain ⟨g, hg⟩ : ∃ g, w.heap.size = g := ⟨_, rfl⟩
  have h1 : Blk ((w.alloc (.cells #[.int .i64 0, .int .i64 (i : Nat), .int .i64 (j : Nat)] 77)).alloc (.cells #[.int .i64 0, .int .i64 0, .int .i64 0, .int .i64 0, .int .i64 0, .int .i64 0] 101)) g 77 #[.int .i64 0, .int .i64 (i : Nat), .int .i64 (j : Nat)] := by rw [← hg]; exact (Blk.new w _ _).alloc _
  have h2 : Blk ((w.alloc (.cells #[.int .i64 0, .int .i64 (i : Nat), .int .i64 (j : Nat)] 77)).alloc (.cells #[.int .i64 0, .int .i64 0, .int .i64 0, .int .i64 0, .int .i64 0, .int .i64 0] 101)) (g + 1) 101 #[.int .i64 0, .int .i64 0, .int .i64 0, .int .i64 0, .int .i64 0, .int .i64 0] := by rw [← hg]; exact Blk.new' (by simp)
  have hb : Below w.heap.size w ((w.alloc (.cells #[.int .i64 0, .int .i64 (i : Nat), .int .i64 (j : Nat)] 77)).alloc (.cells #[.int .i64 0, .int .i64 0, .int .i64 0, .int .i64 0, .int .i64 0, .int .i64 0] 101)) := below_alloc (below_alloc (Below.refl _ _) _) _
  have H1 := Aside0.mk h1
  have H2 := Aside0.mk h2
  have HB := Aside0.mk hb
  rw [hg] at HB ⊢
  clear h1 h2 hb
  generalize (w.alloc (.cells #[.int .i64 0, .int .i64 (i : Nat), .int .i64 (j : Nat)] 77)).alloc (.cells #[.int .i64 0, .int .i64 0, .int .i64 0, .int .i64 0, .int .i64 0, .int .i64 0] 101) = W at *
  have c0 : W.cell? ⟨g, 0, none⟩ = some (.int .i64 0) := H1.out.cell 0
  have c1 : W.cell? ⟨g, 1, none⟩ = some (.int .i64 (i : Nat)) := H1.out.cell 1
  have c2 : W.cell? ⟨g, 2, none⟩ = some (.int .i64 (j : Nat)) := H1.out.cell 2
  have f2 := fun (i : Nat) => H2.out.frozen i
  have o0 : W.cell? ⟨g + 1, 0, none⟩ = some (.int .i64 0) := H2.out.cell 0
  have o1 : W.cell? ⟨g + 1, 1, none⟩ = some (.int .i64 0) := H2.out.cell 1
  have o2 : W.cell? ⟨g + 1, 2, none⟩ = some (.int .i64 0) := H2.out.cell 2
  have o3 : W.cell? ⟨g + 1, 3, none⟩ = some (.int .i64 0) := H2.out.cell 3
  have o4 : W.cell? ⟨g + 1, 4, none⟩ = some (.int .i64 0) := H2.out.cell 4
  have o5 : W.cell? ⟨g + 1, 5, none⟩ = some (.int .i64 0) := H2.out.cell 5
  go_wp2_with fail
  have hB := ((((((H2.out.set_ 0 (.int .i64 (i : Nat))).set_ 1 (.int .i64 (j : Nat))).set_ 2 (.int .i64 ((i : Int) + 1))).set_ 3 (.int .i64 (j : Nat))).set_ 4 (.int .i64 (i : Nat))).set_ 5 (.int .i64 ((j : Int) + 1)))
  have hBB := HB.out
  refine bodyPost_ret (results_cell_row rfl _ _ (g + 1) 101 #[.int .i64 (i : Nat), .int .i64 (j : Nat), .int .i64 ((i : Int) + 1), .int .i64 (j : Nat), .int .i64 (i : Nat), .int .i64 ((j : Int) + 1)] (0, 0) _ rfl hB Tryd.underlying101 rfl (by kernel_rfl)) rfl ?_
  refine ⟨rfl, ?_⟩
  rw [hg]
  exact below_setg (below_setg (below_setg (below_setg (below_setg (below_setg hBB _) _) _) _) _) _
set_option maxHeartbeats 6400000 in
set_option maxRecDepth 100000 in
theorem corners_1 (i j : Nat) (w : World) (hi : i ≤ 20) (hj : j ≤ 20) :
    Calls Tryd.prog 72 #[.agg #[.int .i64 1, .int .i64 (i : Nat), .int .i64 (j : Nat)]] w fun e w' => e = .returned (.agg #[.int .i64 ((i : Int) + 1), .int .i64 (j : Nat), .int .i64 (i : Nat), .int .i64 ((j : Int) + 1), .int .i64 ((i : Int) + 1), .int .i64 ((j : Int) + 1)]) ∧ Below w.heap.size w w' := by
  go_enter Tryd.func72, Tryd.ntmps72
  go_upto_region 1 with fail
  obtain ⟨g, hg⟩ : ∃ g, w.heap.size = g := ⟨_, rfl⟩
  have h1 : Blk ((w.alloc (.cells #[.int .i64 1, .int .i64 (i : Nat), .int .i64 (j : Nat)] 77)).alloc (.cells #[.int .i64 0, .int .i64 0, .int .i64 0, .int .i64 0, .int .i64 0, .int .i64 0] 101)) g 77 #[.int .i64 1, .int .i64 (i : Nat), .int .i64 (j : Nat)] := by rw [← hg]; exact (Blk.new w _ _).alloc _
  have h2 : Blk ((w.alloc (.cells #[.int .i64 1, .int .i64 (i : Nat), .int .i64 (j : Nat)] 77)).alloc (.cells #[.int .i64 0, .int .i64 0, .int .i64 0, .int .i64 0, .int .i64 0, .int .i64 0] 101)) (g + 1) 101 #[.int .i64 0, .int .i64 0, .int .i64 0, .int .i64 0, .int .i64 0, .int .i64 0] := by rw [← hg]; exact Blk.new' (by simp)
  have hb : Below w.heap.size w ((w.alloc (.cells #[.int .i64 1, .int .i64 (i : Nat), .int .i64 (j : Nat)] 77)).alloc (.cells #[.int .i64 0, .int .i64 0, .int .i64 0, .int .i64 0, .int .i64 0, .int .i64 0] 101)) := below_alloc (below_alloc (Below.refl _ _) _) _
  have H1 := Aside0.mk h1
  have H2 := Aside0.mk h2
  have HB := Aside0.mk hb
  rw [hg] at HB ⊢
  clear h1 h2 hb
  generalize (w.alloc (.cells #[.int .i64 1, .int .i64 (i : Nat), .int .i64 (j : Nat)] 77)).alloc (.cells #[.int .i64 0, .int .i64 0, .int .i64 0, .int .i64 0, .int .i64 0, .int .i64 0] 101) = W at *
  have c0 : W.cell? ⟨g, 0, none⟩ = some (.int .i64 1) := H1.out.cell 0
  have c1 : W.cell? ⟨g, 1, none⟩ = some (.int .i64 (i : Nat)) := H1.out.cell 1
  have c2 : W.cell? ⟨g, 2, none⟩ = some (.int .i64 (j : Nat)) := H1.out.cell 2
  have f2 := fun (i : Nat) => H2.out.frozen i
  have o0 : W.cell? ⟨g + 1, 0, none⟩ = some (.int .i64 0) := H2.out.cell 0
  have o1 : W.cell? ⟨g + 1, 1, none⟩ = some (.int .i64 0) := H2.out.cell 1
  have o2 : W.cell? ⟨g + 1, 2, none⟩ = some (.int .i64 0) := H2.out.cell 2
  have o3 : W.cell? ⟨g + 1, 3, none⟩ = some (.int .i64 0) := H2.out.cell 3
  have o4 : W.cell? ⟨g + 1, 4, none⟩ = some (.int .i64 0) := H2.out.cell 4
  have o5 : W.cell? ⟨g + 1, 5, none⟩ = some (.int .i64 0) := H2.out.cell 5
  go_wp2_with fail
  have hB := ((((((H2.out.set_ 0 (.int .i64 ((i : Int) + 1))).set_ 1 (.int .i64 (j : Nat))).set_ 2 (.int .i64 (i : Nat))).set_ 3 (.int .i64 ((j : Int) + 1))).set_ 4 (.int .i64 ((i : Int) + 1))).set_ 5 (.int .i64 ((j : Int) + 1)))
  have hBB := HB.out
  refine bodyPost_ret (results_cell_row rfl _ _ (g + 1) 101 #[.int .i64 ((i : Int) + 1), .int .i64 (j : Nat), .int .i64 (i : Nat), .int .i64 ((j : Int) + 1), .int .i64 ((i : Int) + 1), .int .i64 ((j : Int) + 1)] (0, 0) _ rfl hB Tryd.underlying101 rfl (by kernel_rfl)) rfl ?_
  refine ⟨rfl, ?_⟩
  rw [hg]
  exact below_setg (below_setg (below_setg (below_setg (below_setg (below_setg hBB _) _) _) _) _) _
end Go.Proofs.YtlmgkmmdaecpdaaDoor.Im

namespace Go.Proofs.YtlmgkmmdaecpdaaDoor.Im
open Go.RowKit Go.Proofs.YtlmgkmmdaecpdaaDoorW.PrintWords Go.Proofs.YtlmgkmmdaecpdaaDoorW.PrintLast Go.Proofs.YtlmgkmmdaecpdaaDoorW.PrintMore
attribute [local go_sem] max2_int min2_int max_two min_two max_three min_three max_four min_four
set_option linter.unusedVariables false
set_option linter.unusedSimpArgs false
theorem info77 : (Tryd.prog.info? 77).map (fun i => (i.zero, i.size, i.bytes)) = some (some (.agg #[(.int .i64 0), (.int .i64 0), (.int .i64 0)]), 3, 24) := by kernel_rfl
structure S77 where
  f0 : Int
  f1 : Int
  f2 : Int
def z77 : S77 := ⟨(0 : Int), (0 : Int), (0 : Int)⟩
def k77 : Kd S77 := Kd.iso (Kd.pair (Kd.int .i64) (Kd.pair (Kd.int .i64) (Kd.int .i64))) (fun x : S77 => (x.f0, x.f1, x.f2))
theorem k77_open {w : World} {x : S77} {cs : List Value} (h : k77.K w x cs) : cs = [.int .i64 x.f0, .int .i64 x.f1, .int .i64 x.f2] := by
  obtain ⟨_, _, rfl, rfl, ⟨_, _, rfl, rfl, rfl⟩⟩ := h
  exact rfl
theorem k77_mkM (w : World) (base : Nat) (ok : Nat → Prop) (x : S77)  : k77.M w base ok x [.int .i64 x.f0, .int .i64 x.f1, .int .i64 x.f2] := ⟨[.int .i64 x.f0], [.int .i64 x.f1, .int .i64 x.f2], rfl, rfl, ⟨[.int .i64 x.f1], [.int .i64 x.f2], rfl, rfl, rfl⟩⟩
def rd_T77 (xs : List S77) (i : Int) : S77 := xs.getD i.toNat z77
theorem at_T77 {w : World} {A : Option Addr} {n : Nat} {xs : List S77} (h : Kd.C k77 w A n xs) (i : Int) (h0 : 0 ≤ i) (h1 : i < n) : ∃ ad , A = some ad ∧ w.cell? (ad.add (i.toNat * 3)) = some (.int .i64 (rd_T77 xs i).f0) ∧ w.cell? ⟨(ad.add (i.toNat * 3)).block, (ad.add (i.toNat * 3)).off + 1, none⟩ = some (.int .i64 (rd_T77 xs i).f1) ∧ w.cell? ⟨(ad.add (i.toNat * 3)).block, (ad.add (i.toNat * 3)).off + 2, none⟩ = some (.int .i64 (rd_T77 xs i).f2) := by
  obtain ⟨ad, c, e, _, hK, hc0⟩ := Kd.C_get h z77 i h0 h1
  have hc : ∀ j u, c[j]? = some u → w.cell? (ad.add (i.toNat * 3 + j)) = some u := hc0
  obtain rfl := k77_open hK
  exact ⟨ad, e, hc 0 _ rfl, by rw [← add_field _ _ 1 (by omega)]; exact hc 1 _ rfl, by rw [← add_field _ _ 2 (by omega)]; exact hc 2 _ rfl⟩
def rd_L3 (xs : List (List Int)) (i : Int) : (List Int) := xs.getD i.toNat ([] : List Int)
theorem at_L3 {w : World} {A : Option Addr} {n : Nat} {xs : List (List Int)} (h : Kd.C (Kd.slice 3 (Kd.int .i64)) w A n xs) (i : Int) (h0 : 0 ≤ i) (h1 : i < n) : ∃ ad A0 c0, A = some ad ∧ w.cell? (ad.add i.toNat) = some (.slice A0 (rd_L3 xs i).length c0) ∧ (rd_L3 xs i).length ≤ c0 ∧ (Kd.int .i64).C w A0 (rd_L3 xs i).length (rd_L3 xs i) := by
  obtain ⟨ad, c, e, _, hK, hc0⟩ := Kd.C_get h ([] : List Int) i h0 h1
  have hc : ∀ j u, c[j]? = some u → w.cell? (ad.add (i.toNat * 1 + j)) = some u := hc0
  obtain ⟨A0, c0, rfl, l0, g0⟩ := hK
  exact ⟨ad, A0, c0, e, by have hq := hc 0 _ rfl; rwa [Nat.mul_one, Nat.add_zero] at hq, l0, g0⟩
end Go.Proofs.YtlmgkmmdaecpdaaDoor.Im

namespace Go.Proofs.YtlmgkmmdaecpdaaDoor.Im
open Go.RowKit Go.Proofs.YtlmgkmmdaecpdaaDoorW.PrintWords Go.Proofs.YtlmgkmmdaecpdaaDoorW.PrintLast Go.Proofs.YtlmgkmmdaecpdaaDoorW.PrintMore
attribute [local go_sem] max2_int min2_int max_two min_two max_three min_three max_four min_four
set_option linter.unusedVariables false
set_option linter.unusedSimpArgs false
def pomadelaw04_same.l0 : Nat → List Int → List Int → Int → Option (Bool)
  | 0, _, _, _ => none
  | k + 1, x0, x1, x5 => if x5 < (x0.length : Int) then (if 0 ≤ x5 then (if x5 < (x1.length : Int) then (if (rd x0 x5) = (rd x1 x5) then (pomadelaw04_same.l0 k x0 x1 (wrap64 (x5 + 1))) else (some false)) else (none)) else (none)) else (some true)
def pomadelaw04_same.f (k : Nat) (l0 : List Int) (l1 : List Int) : Option (Bool) := if (l0.length : Int) = (l1.length : Int) then (pomadelaw04_same.l0 k l0 l1 0) else (some false)
theorem pomadelaw04_same.mono_l : ∀ k, (∀ y0 y1 y2, LeO (pomadelaw04_same.l0 k y0 y1 y2) (pomadelaw04_same.l0 (k + 1) y0 y1 y2))
  | 0 => fun _ _ _ r h => by simp [pomadelaw04_same.l0] at h
  | k + 1 => by
    have ih0 := pomadelaw04_same.mono_l k
    · intro y0 y1 y2
      unfold pomadelaw04_same.l0
      repeat' first
      | (with_reducible exact ih0 _ _ _)
      | (with_reducible exact LeO.refl _)
      | (with_reducible exact LeO.none _)
      | (with_reducible refine LeO.ite ?_ ?_)
      | (with_reducible refine LeO.bind ?_ (fun _ => ?_))
      | exact ih0 _ _ _
      | exact LeO.none _
      | refine LeO.ite ?_ ?_
      | refine LeO.bind ?_ (fun _ => ?_)
theorem pomadelaw04_same.mono : ∀ a0 a1 k, LeO (pomadelaw04_same.f k a0 a1) (pomadelaw04_same.f (k + 1) a0 a1) := by
  intro a0 a1 k
  have ih0 := pomadelaw04_same.mono_l k
  unfold pomadelaw04_same.f
  repeat' first
      | (with_reducible exact ih0 _ _ _)
      | (with_reducible exact LeO.refl _)
      | (with_reducible exact LeO.none _)
      | (with_reducible refine LeO.ite ?_ ?_)
      | (with_reducible refine LeO.bind ?_ (fun _ => ?_))
      | exact ih0 _ _ _
      | exact LeO.none _
      | refine LeO.ite ?_ ?_
      | refine LeO.bind ?_ (fun _ => ?_)
set_option maxHeartbeats 8000000 in
set_option maxRecDepth 100000 in
theorem pomadelaw04_same.calls (k : Nat) (A0 : Option Addr) (c0 : Nat) (l0 : List Int) (A1 : Option Addr) (c1 : Nat) (l1 : List Int) (r : Bool) (w : World) (hr0 : Kd.C (Kd.int .i64) w A0 l0.length l0) (hc0 : l0.length ≤ c0) (hr1 : Kd.C (Kd.int .i64) w A1 l1.length l1) (hc1 : l1.length ≤ c1) (h : pomadelaw04_same.f k l0 l1 = some r) :
    Calls Tryd.prog 33 #[.slice A0 l0.length c0, .slice A1 l1.length c1] w fun e w' => e = .returned (.bool r) ∧ Drawn0 w w' := by
  have HR0 := Aside0.mk hr0
  have HC0 := Aside0.mk hc0
  clear hr0 hc0
  have HR1 := Aside0.mk hr1
  have HC1 := Aside0.mk hc1
  clear hr1 hc1
  have H : (if (l0.length : Int) = (l1.length : Int) then (pomadelaw04_same.l0 k l0 l1 0) else (some false)) = some r := h
  clear h
  by_cases c3 : (l0.length : Int) = (l1.length : Int)
  · rw [if_pos c3] at H
    have c3b0 : ((l0.length : Int) == (l1.length : Int)) = true := beq_iff_eq.mpr c3
    have c3b1 : ((l0.length : Int) != (l1.length : Int)) = false := bne_eq_false_iff_eq.mpr c3
    have c3b2 : (l0.length == l1.length) = true := by first | simpa using c3 | (simp at c3 ⊢; omega)
    clear c3
    have H' := Aside0.mk H
    clear H
    go_enter Tryd.func33, Tryd.ntmps33
    go_wp2
    repeat (go_quiet (fail); try go_wp2)
    go_loopg [5] k (fun kq v5 w' => ∃ (x5_1 : Int), v5 = .int .i64 x5_1 ∧ Aside0 (pomadelaw04_same.l0 kq l0 l1 x5_1 = some r) ∧ Aside0 (kq ≤ k) ∧ Drawn0 w w')
    case atStart => exact ⟨(0), (by first | rfl | (simp; done) | (simp [*]; done)), H', ⟨Nat.le_refl _⟩, by repeat (first | exact Drawn0.refl _ | apply Drawn0.step)⟩
    case round =>
      clear H'
      try clear c1
      try clear p2
      try clear c3
      try clear c3b0
      try clear c3b1
      try clear c3b2
      obtain ⟨x5_1, rfl, HA, HK1, ⟨m1, rfl⟩⟩ := hrel
      cases gk with
      | zero => exact absurd HA.out (by simp [pomadelaw04_same.l0])
      | succ k1 =>
        have H := HA.out
        clear HA
        simp only [pomadelaw04_same.l0] at H
        by_cases c4 : x5_1 < (l0.length : Int)
        · rw [if_pos c4] at H
          have c4b0 : decide (x5_1 < (l0.length : Int)) = true := decide_eq_true c4
          clear c4
          by_cases c5 : 0 ≤ x5_1
          · rw [if_pos c5] at H
            have c5b0 : decide (0 ≤ x5_1) = true := decide_eq_true c5
            clear c5
            by_cases c6 : x5_1 < (l1.length : Int)
            · rw [if_pos c6] at H
              have c6b0 : decide (x5_1 < (l1.length : Int)) = true := decide_eq_true c6
              clear c6
              by_cases c7 : (rd l0 x5_1) = (rd l1 x5_1)
              · rw [if_pos c7] at H
                have c7b0 : ((rd l0 x5_1) == (rd l1 x5_1)) = true := beq_iff_eq.mpr c7
                have c7b1 : ((rd l0 x5_1) != (rd l1 x5_1)) = false := bne_eq_false_iff_eq.mpr c7
                clear c7
                have H' := Aside0.mk H
                clear H
                have p232 : 0 ≤ (x5_1 : Int) := of_decide_eq_true (by first | (with_reducible assumption) | assumption)
                have q232 : x5_1 < (l0.length : Int) := of_decide_eq_true (by first | (with_reducible assumption) | assumption)
                obtain ⟨ad232, e232, hx232_0⟩ := Kd.at_int HR0.out x5_1 p232 q232
                cases e232
                replace p232 := eq_true p232
                replace q232 := eq_true q232
                have p233 : 0 ≤ (x5_1 : Int) := of_decide_eq_true (by first | (with_reducible assumption) | assumption)
                have q233 : x5_1 < (l1.length : Int) := of_decide_eq_true (by first | (with_reducible assumption) | assumption)
                obtain ⟨ad233, e233, hx233_0⟩ := Kd.at_int HR1.out x5_1 p233 q233
                cases e233
                replace p233 := eq_true p233
                replace q233 := eq_true q233
                go_wp2
                repeat (go_quiet (fail); try go_wp2)
                go_roundg k1
                case measure => have := HK1.out; omega
                case rel => exact ⟨(wrap64 (x5_1 + 1)), (by first | rfl | (simp; done) | (simp [*]; done)), H', ⟨by have := HK1.out; omega⟩, by repeat (first | exact Drawn0.refl _ | apply Drawn0.step)⟩
              · rw [if_neg c7] at H
                have c7b0 : ((rd l0 x5_1) == (rd l1 x5_1)) = false := beq_eq_false_iff_ne.mpr c7
                have c7b1 : ((rd l0 x5_1) != (rd l1 x5_1)) = true := bne_iff_ne.mpr c7
                obtain rfl := Option.some.inj H
                have p232 : 0 ≤ (x5_1 : Int) := of_decide_eq_true (by first | (with_reducible assumption) | assumption)
                have q232 : x5_1 < (l0.length : Int) := of_decide_eq_true (by first | (with_reducible assumption) | assumption)
                obtain ⟨ad232, e232, hx232_0⟩ := Kd.at_int HR0.out x5_1 p232 q232
                cases e232
                replace p232 := eq_true p232
                replace q232 := eq_true q232
                have p233 : 0 ≤ (x5_1 : Int) := of_decide_eq_true (by first | (with_reducible assumption) | assumption)
                have q233 : x5_1 < (l1.length : Int) := of_decide_eq_true (by first | (with_reducible assumption) | assumption)
                obtain ⟨ad233, e233, hx233_0⟩ := Kd.at_int HR1.out x5_1 p233 q233
                cases e233
                replace p233 := eq_true p233
                replace q233 := eq_true q233
                go_wp2
                repeat (go_quiet (fail); try go_wp2)
                go_ret
                exact ⟨by first | rfl | (simp; done) | (simp [*]; done), by repeat (first | exact Drawn0.refl _ | apply Drawn0.step)⟩
            · rw [if_neg c6] at H
              exact absurd H (by simp)
          · rw [if_neg c5] at H
            exact absurd H (by simp)
        · rw [if_neg c4] at H
          have c4b0 : decide (x5_1 < (l0.length : Int)) = false := decide_eq_false c4
          clear c4
          obtain rfl := Option.some.inj H
          go_wp2
          repeat (go_quiet (fail); try go_wp2)
          go_ret
          exact ⟨by first | rfl | (simp; done) | (simp [*]; done), by repeat (first | exact Drawn0.refl _ | apply Drawn0.step)⟩
  · rw [if_neg c3] at H
    have c3b0 : ((l0.length : Int) == (l1.length : Int)) = false := beq_eq_false_iff_ne.mpr c3
    have c3b1 : ((l0.length : Int) != (l1.length : Int)) = true := bne_iff_ne.mpr c3
    have c3b2 : (l0.length == l1.length) = false := by first | simpa using c3 | (simp at c3 ⊢; omega)
    obtain rfl := Option.some.inj H
    go_enter Tryd.func33, Tryd.ntmps33
    go_wp2
    repeat (go_quiet (fail); try go_wp2)
    go_ret
    exact ⟨by first | rfl | (simp; done) | (simp [*]; done), by repeat (first | exact Drawn0.refl _ | apply Drawn0.step)⟩
def pomadelaw04_lists.l0 : Nat → List (List Int) → List (List Int) → Int → Option (Bool)
  | 0, _, _, _ => none
  | k + 1, x0, x1, x5 => if x5 < (x0.length : Int) then (if 0 ≤ x5 then (if x5 < (x1.length : Int) then ((pomadelaw04_same.f k (rd_L3 x0 x5) (rd_L3 x1 x5)).bind fun t250 => (if t250 = true then (pomadelaw04_lists.l0 k x0 x1 (wrap64 (x5 + 1))) else (some false))) else (none)) else (none)) else (some true)
def pomadelaw04_lists.f (k : Nat) (l0 : List (List Int)) (l1 : List (List Int)) : Option (Bool) := if (l0.length : Int) = (l1.length : Int) then (pomadelaw04_lists.l0 k l0 l1 0) else (some false)
theorem pomadelaw04_lists.mono_l : ∀ k, (∀ y0 y1 y2, LeO (pomadelaw04_lists.l0 k y0 y1 y2) (pomadelaw04_lists.l0 (k + 1) y0 y1 y2))
  | 0 => fun _ _ _ r h => by simp [pomadelaw04_lists.l0] at h
  | k + 1 => by
    have ih0 := pomadelaw04_lists.mono_l k
    · intro y0 y1 y2
      unfold pomadelaw04_lists.l0
      repeat' first
      | (with_reducible exact ih0 _ _ _)
      | (with_reducible exact pomadelaw04_same.mono _ _ _)
      | (with_reducible exact LeO.refl _)
      | (with_reducible exact LeO.none _)
      | (with_reducible refine LeO.ite ?_ ?_)
      | (with_reducible refine LeO.bind ?_ (fun _ => ?_))
      | exact ih0 _ _ _
      | exact pomadelaw04_same.mono _ _ _
      | exact LeO.none _
      | refine LeO.ite ?_ ?_
      | refine LeO.bind ?_ (fun _ => ?_)
theorem pomadelaw04_lists.mono : ∀ a0 a1 k, LeO (pomadelaw04_lists.f k a0 a1) (pomadelaw04_lists.f (k + 1) a0 a1) := by
  intro a0 a1 k
  have ih0 := pomadelaw04_lists.mono_l k
  unfold pomadelaw04_lists.f
  repeat' first
      | (with_reducible exact ih0 _ _ _)
      | (with_reducible exact pomadelaw04_same.mono _ _ _)
      | (with_reducible exact LeO.refl _)
      | (with_reducible exact LeO.none _)
      | (with_reducible refine LeO.ite ?_ ?_)
      | (with_reducible refine LeO.bind ?_ (fun _ => ?_))
      | exact ih0 _ _ _
      | exact pomadelaw04_same.mono _ _ _
      | exact LeO.none _
      | refine LeO.ite ?_ ?_
      | refine LeO.bind ?_ (fun _ => ?_)
set_option maxHeartbeats 8000000 in
set_option maxRecDepth 100000 in
theorem pomadelaw04_lists.calls (k : Nat) (A0 : Option Addr) (c0 : Nat) (l0 : List (List Int)) (A1 : Option Addr) (c1 : Nat) (l1 : List (List Int)) (r : Bool) (w : World) (hr0 : Kd.C (Kd.slice 3 (Kd.int .i64)) w A0 l0.length l0) (hc0 : l0.length ≤ c0) (hr1 : Kd.C (Kd.slice 3 (Kd.int .i64)) w A1 l1.length l1) (hc1 : l1.length ≤ c1) (h : pomadelaw04_lists.f k l0 l1 = some r) :
    Calls Tryd.prog 29 #[.slice A0 l0.length c0, .slice A1 l1.length c1] w fun e w' => e = .returned (.bool r) ∧ Drawn0 w w' := by
  have HR0 := Aside0.mk hr0
  have HC0 := Aside0.mk hc0
  clear hr0 hc0
  have HR1 := Aside0.mk hr1
  have HC1 := Aside0.mk hc1
  clear hr1 hc1
  have H : (if (l0.length : Int) = (l1.length : Int) then (pomadelaw04_lists.l0 k l0 l1 0) else (some false)) = some r := h
  clear h
  by_cases c3 : (l0.length : Int) = (l1.length : Int)
  · rw [if_pos c3] at H
    have c3b0 : ((l0.length : Int) == (l1.length : Int)) = true := beq_iff_eq.mpr c3
    have c3b1 : ((l0.length : Int) != (l1.length : Int)) = false := bne_eq_false_iff_eq.mpr c3
    have c3b2 : (l0.length == l1.length) = true := by first | simpa using c3 | (simp at c3 ⊢; omega)
    clear c3
    have H' := Aside0.mk H
    clear H
    go_enter Tryd.func29, Tryd.ntmps29
    go_wp2
    repeat (go_quiet (fail); try go_wp2)
    go_loopg [5] k (fun kq v5 w' => ∃ (x5_1 : Int), v5 = .int .i64 x5_1 ∧ Aside0 (pomadelaw04_lists.l0 kq l0 l1 x5_1 = some r) ∧ Aside0 (kq ≤ k) ∧ Drawn0 w w')
    case atStart => exact ⟨(0), (by first | rfl | (simp; done) | (simp [*]; done)), H', ⟨Nat.le_refl _⟩, by repeat (first | exact Drawn0.refl _ | apply Drawn0.step)⟩
    case round =>
      clear H'
      try clear c1
      try clear c2
      try clear p2
      try clear c3
      try clear c3b0
      try clear c3b1
      try clear c3b2
      obtain ⟨x5_1, rfl, HA, HK1, ⟨m1, rfl⟩⟩ := hrel
      cases gk with
      | zero => exact absurd HA.out (by simp [pomadelaw04_lists.l0])
      | succ k1 =>
        have H := HA.out
        clear HA
        simp only [pomadelaw04_lists.l0] at H
        by_cases c4 : x5_1 < (l0.length : Int)
        · rw [if_pos c4] at H
          have c4b0 : decide (x5_1 < (l0.length : Int)) = true := decide_eq_true c4
          clear c4
          by_cases c5 : 0 ≤ x5_1
          · rw [if_pos c5] at H
            have c5b0 : decide (0 ≤ x5_1) = true := decide_eq_true c5
            clear c5
            by_cases c6 : x5_1 < (l1.length : Int)
            · rw [if_pos c6] at H
              have c6b0 : decide (x5_1 < (l1.length : Int)) = true := decide_eq_true c6
              clear c6
              replace H := Option.bind_eq_some_iff.mp H
              obtain ⟨t250, A70, H⟩ := H
              replace H : (if t250 = true then (pomadelaw04_lists.l0 k1 l0 l1 (wrap64 (x5_1 + 1))) else (some false)) = some r := H
              have A7 := Aside0.mk A70
              clear A70
              by_cases c8 : t250 = true
              · subst c8
                have H1 : (pomadelaw04_lists.l0 k1 l0 l1 (wrap64 (x5_1 + 1))) = some r := by rw [if_pos rfl] at H; exact H
                clear H
                have H := H1
                clear H1
                have H' := Aside0.mk H
                clear H
                have p248 : 0 ≤ (x5_1 : Int) := of_decide_eq_true (by first | (with_reducible assumption) | assumption)
                have q248 : x5_1 < (l0.length : Int) := of_decide_eq_true (by first | (with_reducible assumption) | assumption)
                obtain ⟨ad248, A248_0, c248_0, e248, hx248_0, hl248_0, hi248_0⟩ := at_L3 HR0.out x5_1 p248 q248
                cases e248
                have HR248_0 := Aside0.mk hi248_0
                have HC248_0 := Aside0.mk hl248_0
                clear hi248_0 hl248_0
                replace p248 := eq_true p248
                replace q248 := eq_true q248
                have p249 : 0 ≤ (x5_1 : Int) := of_decide_eq_true (by first | (with_reducible assumption) | assumption)
                have q249 : x5_1 < (l1.length : Int) := of_decide_eq_true (by first | (with_reducible assumption) | assumption)
                obtain ⟨ad249, A249_0, c249_0, e249, hx249_0, hl249_0, hi249_0⟩ := at_L3 HR1.out x5_1 p249 q249
                cases e249
                have HR249_0 := Aside0.mk hi249_0
                have HC249_0 := Aside0.mk hl249_0
                clear hi249_0 hl249_0
                replace p249 := eq_true p249
                replace q249 := eq_true q249
                go_wp2_with (first | (go_at_call 33; (with_reducible refine (pomadelaw04_same.calls k1 _ _ (rd_L3 l0 x5_1) _ _ (rd_L3 l1 x5_1) true _ ?side1 ?side2 ?side3 ?side4 A7.out).mono ?_); (case side1 => repeat (first | exact HR248_0.out | (with_reducible refine Kd.C_alloc ?_ _) | (with_reducible refine Kd.C_drewN ?_ _) | (with_reducible refine Kd.C_drew ?_))); (case side2 => exact HC248_0.out); (case side3 => repeat (first | exact HR249_0.out | (with_reducible refine Kd.C_alloc ?_ _) | (with_reducible refine Kd.C_drewN ?_ _) | (with_reducible refine Kd.C_drew ?_))); (case side4 => exact HC249_0.out); rintro e w' ⟨rfl, ⟨nd, rfl⟩⟩; (try first | exact ⟨rfl, _, World.drewN_drewN _ _ _⟩ | exact ⟨rfl, _, Eq.trans (World.drewN_drewN _ _ _) (congrArg (World.drewN _) (Nat.add_assoc _ _ _))⟩)))
                repeat (go_quiet (first | (go_at_call 33; (with_reducible refine (pomadelaw04_same.calls k1 _ _ (rd_L3 l0 x5_1) _ _ (rd_L3 l1 x5_1) true _ ?side1 ?side2 ?side3 ?side4 A7.out).mono ?_); (case side1 => repeat (first | exact HR248_0.out | (with_reducible refine Kd.C_alloc ?_ _) | (with_reducible refine Kd.C_drewN ?_ _) | (with_reducible refine Kd.C_drew ?_))); (case side2 => exact HC248_0.out); (case side3 => repeat (first | exact HR249_0.out | (with_reducible refine Kd.C_alloc ?_ _) | (with_reducible refine Kd.C_drewN ?_ _) | (with_reducible refine Kd.C_drew ?_))); (case side4 => exact HC249_0.out); rintro e w' ⟨rfl, ⟨nd, rfl⟩⟩; (try first | exact ⟨rfl, _, World.drewN_drewN _ _ _⟩ | exact ⟨rfl, _, Eq.trans (World.drewN_drewN _ _ _) (congrArg (World.drewN _) (Nat.add_assoc _ _ _))⟩))); try go_wp2_with (first | (go_at_call 33; (with_reducible refine (pomadelaw04_same.calls k1 _ _ (rd_L3 l0 x5_1) _ _ (rd_L3 l1 x5_1) true _ ?side1 ?side2 ?side3 ?side4 A7.out).mono ?_); (case side1 => repeat (first | exact HR248_0.out | (with_reducible refine Kd.C_alloc ?_ _) | (with_reducible refine Kd.C_drewN ?_ _) | (with_reducible refine Kd.C_drew ?_))); (case side2 => exact HC248_0.out); (case side3 => repeat (first | exact HR249_0.out | (with_reducible refine Kd.C_alloc ?_ _) | (with_reducible refine Kd.C_drewN ?_ _) | (with_reducible refine Kd.C_drew ?_))); (case side4 => exact HC249_0.out); rintro e w' ⟨rfl, ⟨nd, rfl⟩⟩; (try first | exact ⟨rfl, _, World.drewN_drewN _ _ _⟩ | exact ⟨rfl, _, Eq.trans (World.drewN_drewN _ _ _) (congrArg (World.drewN _) (Nat.add_assoc _ _ _))⟩))))
                go_roundg k1
                case measure => have := HK1.out; omega
                case rel => exact ⟨(wrap64 (x5_1 + 1)), (by first | rfl | (simp; done) | (simp [*]; done)), H', ⟨by have := HK1.out; omega⟩, by repeat (first | exact Drawn0.refl _ | apply Drawn0.step)⟩
              · replace c8 := Bool.eq_false_iff.mpr c8
                subst c8
                have H1 : (some false) = some r := by rw [if_neg (show ¬ (false = true) by decide)] at H; exact H
                clear H
                have H := H1
                clear H1
                obtain rfl := Option.some.inj H
                have p248 : 0 ≤ (x5_1 : Int) := of_decide_eq_true (by first | (with_reducible assumption) | assumption)
                have q248 : x5_1 < (l0.length : Int) := of_decide_eq_true (by first | (with_reducible assumption) | assumption)
                obtain ⟨ad248, A248_0, c248_0, e248, hx248_0, hl248_0, hi248_0⟩ := at_L3 HR0.out x5_1 p248 q248
                cases e248
                have HR248_0 := Aside0.mk hi248_0
                have HC248_0 := Aside0.mk hl248_0
                clear hi248_0 hl248_0
                replace p248 := eq_true p248
                replace q248 := eq_true q248
                have p249 : 0 ≤ (x5_1 : Int) := of_decide_eq_true (by first | (with_reducible assumption) | assumption)
                have q249 : x5_1 < (l1.length : Int) := of_decide_eq_true (by first | (with_reducible assumption) | assumption)
                obtain ⟨ad249, A249_0, c249_0, e249, hx249_0, hl249_0, hi249_0⟩ := at_L3 HR1.out x5_1 p249 q249
                cases e249
                have HR249_0 := Aside0.mk hi249_0
                have HC249_0 := Aside0.mk hl249_0
                clear hi249_0 hl249_0
                replace p249 := eq_true p249
                replace q249 := eq_true q249
                go_wp2_with (first | (go_at_call 33; (with_reducible refine (pomadelaw04_same.calls k1 _ _ (rd_L3 l0 x5_1) _ _ (rd_L3 l1 x5_1) false _ ?side1 ?side2 ?side3 ?side4 A7.out).mono ?_); (case side1 => repeat (first | exact HR248_0.out | (with_reducible refine Kd.C_alloc ?_ _) | (with_reducible refine Kd.C_drewN ?_ _) | (with_reducible refine Kd.C_drew ?_))); (case side2 => exact HC248_0.out); (case side3 => repeat (first | exact HR249_0.out | (with_reducible refine Kd.C_alloc ?_ _) | (with_reducible refine Kd.C_drewN ?_ _) | (with_reducible refine Kd.C_drew ?_))); (case side4 => exact HC249_0.out); rintro e w' ⟨rfl, ⟨nd, rfl⟩⟩; (try first | exact ⟨rfl, _, World.drewN_drewN _ _ _⟩ | exact ⟨rfl, _, Eq.trans (World.drewN_drewN _ _ _) (congrArg (World.drewN _) (Nat.add_assoc _ _ _))⟩)))
                repeat (go_quiet (first | (go_at_call 33; (with_reducible refine (pomadelaw04_same.calls k1 _ _ (rd_L3 l0 x5_1) _ _ (rd_L3 l1 x5_1) false _ ?side1 ?side2 ?side3 ?side4 A7.out).mono ?_); (case side1 => repeat (first | exact HR248_0.out | (with_reducible refine Kd.C_alloc ?_ _) | (with_reducible refine Kd.C_drewN ?_ _) | (with_reducible refine Kd.C_drew ?_))); (case side2 => exact HC248_0.out); (case side3 => repeat (first | exact HR249_0.out | (with_reducible refine Kd.C_alloc ?_ _) | (with_reducible refine Kd.C_drewN ?_ _) | (with_reducible refine Kd.C_drew ?_))); (case side4 => exact HC249_0.out); rintro e w' ⟨rfl, ⟨nd, rfl⟩⟩; (try first | exact ⟨rfl, _, World.drewN_drewN _ _ _⟩ | exact ⟨rfl, _, Eq.trans (World.drewN_drewN _ _ _) (congrArg (World.drewN _) (Nat.add_assoc _ _ _))⟩))); try go_wp2_with (first | (go_at_call 33; (with_reducible refine (pomadelaw04_same.calls k1 _ _ (rd_L3 l0 x5_1) _ _ (rd_L3 l1 x5_1) false _ ?side1 ?side2 ?side3 ?side4 A7.out).mono ?_); (case side1 => repeat (first | exact HR248_0.out | (with_reducible refine Kd.C_alloc ?_ _) | (with_reducible refine Kd.C_drewN ?_ _) | (with_reducible refine Kd.C_drew ?_))); (case side2 => exact HC248_0.out); (case side3 => repeat (first | exact HR249_0.out | (with_reducible refine Kd.C_alloc ?_ _) | (with_reducible refine Kd.C_drewN ?_ _) | (with_reducible refine Kd.C_drew ?_))); (case side4 => exact HC249_0.out); rintro e w' ⟨rfl, ⟨nd, rfl⟩⟩; (try first | exact ⟨rfl, _, World.drewN_drewN _ _ _⟩ | exact ⟨rfl, _, Eq.trans (World.drewN_drewN _ _ _) (congrArg (World.drewN _) (Nat.add_assoc _ _ _))⟩))))
                go_ret
                exact ⟨by first | rfl | (simp; done) | (simp [*]; done), by repeat (first | exact Drawn0.refl _ | apply Drawn0.step)⟩
            · rw [if_neg c6] at H
              exact absurd H (by simp)
          · rw [if_neg c5] at H
            exact absurd H (by simp)
        · rw [if_neg c4] at H
          have c4b0 : decide (x5_1 < (l0.length : Int)) = false := decide_eq_false c4
          clear c4
          obtain rfl := Option.some.inj H
          go_wp2
          repeat (go_quiet (fail); try go_wp2)
          go_ret
          exact ⟨by first | rfl | (simp; done) | (simp [*]; done), by repeat (first | exact Drawn0.refl _ | apply Drawn0.step)⟩
  · rw [if_neg c3] at H
    have c3b0 : ((l0.length : Int) == (l1.length : Int)) = false := beq_eq_false_iff_ne.mpr c3
    have c3b1 : ((l0.length : Int) != (l1.length : Int)) = true := bne_iff_ne.mpr c3
    have c3b2 : (l0.length == l1.length) = false := by first | simpa using c3 | (simp at c3 ⊢; omega)
    obtain rfl := Option.some.inj H
    go_enter Tryd.func29, Tryd.ntmps29
    go_wp2
    repeat (go_quiet (fail); try go_wp2)
    go_ret
    exact ⟨by first | rfl | (simp; done) | (simp [*]; done), by repeat (first | exact Drawn0.refl _ | apply Drawn0.step)⟩
def pomaderef04_Many.l0 : Nat → ByteArray → Int → Int → Int → Option (Int)
  | 0, _, _, _, _ => none
  | k + 1, x0, x1, x5, x6 => if x6 < (x0.size : Int) then (if 0 ≤ x6 then (if (bt x0 x6) = x1 then (pomaderef04_Many.l0 k x0 x1 (wrap64 (x5 + 1)) (wrap64 (x6 + 1))) else (pomaderef04_Many.l0 k x0 x1 x5 (wrap64 (x6 + 1)))) else (none)) else (some x5)
def pomaderef04_Many.f (k : Nat) (a0 : ByteArray) (a1 : Int) : Option (Int) := pomaderef04_Many.l0 k a0 a1 0 0
theorem pomaderef04_Many.mono_l : ∀ k, (∀ y0 y1 y2 y3, LeO (pomaderef04_Many.l0 k y0 y1 y2 y3) (pomaderef04_Many.l0 (k + 1) y0 y1 y2 y3))
  | 0 => fun _ _ _ _ r h => by simp [pomaderef04_Many.l0] at h
  | k + 1 => by
    have ih0 := pomaderef04_Many.mono_l k
    · intro y0 y1 y2 y3
      unfold pomaderef04_Many.l0
      repeat' first
      | (with_reducible exact ih0 _ _ _ _)
      | (with_reducible exact LeO.refl _)
      | (with_reducible exact LeO.none _)
      | (with_reducible refine LeO.ite ?_ ?_)
      | (with_reducible refine LeO.bind ?_ (fun _ => ?_))
      | exact ih0 _ _ _ _
      | exact LeO.none _
      | refine LeO.ite ?_ ?_
      | refine LeO.bind ?_ (fun _ => ?_)
theorem pomaderef04_Many.mono : ∀ a0 a1 k, LeO (pomaderef04_Many.f k a0 a1) (pomaderef04_Many.f (k + 1) a0 a1) := by
  intro a0 a1 k
  have ih0 := pomaderef04_Many.mono_l k
  unfold pomaderef04_Many.f
  repeat' first
      | (with_reducible exact ih0 _ _ _ _)
      | (with_reducible exact LeO.refl _)
      | (with_reducible exact LeO.none _)
      | (with_reducible refine LeO.ite ?_ ?_)
      | (with_reducible refine LeO.bind ?_ (fun _ => ?_))
      | exact ih0 _ _ _ _
      | exact LeO.none _
      | refine LeO.ite ?_ ?_
      | refine LeO.bind ?_ (fun _ => ?_)
set_option maxHeartbeats 8000000 in
set_option maxRecDepth 100000 in
theorem pomaderef04_Many.calls (k : Nat) (a0 : ByteArray) (a1 : Int) (r : Int) (w : World) (h : pomaderef04_Many.f k a0 a1 = some r) :
    Calls Tryd.prog 16 #[.string a0, .int .u8 a1] w fun e w' => e = .returned (.int .i64 r) ∧ Drawn0 w w' := by
  have H : (pomaderef04_Many.l0 k a0 a1 0 0) = some r := h
  clear h
  have H' := Aside0.mk H
  clear H
  go_enter Tryd.func16, Tryd.ntmps16
  go_wp2
  go_loopg [5, 6] k (fun kq v5 v6 w' => ∃ (x5_1 : Int) (x6_1 : Int), v5 = .int .i64 x5_1 ∧ v6 = .int .i64 x6_1 ∧ Aside0 (pomaderef04_Many.l0 kq a0 a1 x5_1 x6_1 = some r) ∧ Aside0 (kq ≤ k) ∧ Drawn0 w w')
  case atStart => exact ⟨(0), (0), (by first | rfl | (simp; done) | (simp [*]; done)), (by first | rfl | (simp; done) | (simp [*]; done)), H', ⟨Nat.le_refl _⟩, by repeat (first | exact Drawn0.refl _ | apply Drawn0.step)⟩
  case round =>
    clear H'
    try clear c1
    try clear p2
    obtain ⟨x5_1, x6_1, rfl, rfl, HA, HK1, ⟨m1, rfl⟩⟩ := hrel
    cases gk with
    | zero => exact absurd HA.out (by simp [pomaderef04_Many.l0])
    | succ k1 =>
      have H := HA.out
      clear HA
      simp only [pomaderef04_Many.l0] at H
      by_cases c3 : x6_1 < (a0.size : Int)
      · rw [if_pos c3] at H
        have c3b0 : decide (x6_1 < (a0.size : Int)) = true := decide_eq_true c3
        clear c3
        by_cases c4 : 0 ≤ x6_1
        · rw [if_pos c4] at H
          have c4b0 : decide (0 ≤ x6_1) = true := decide_eq_true c4
          clear c4
          by_cases c6 : (bt a0 x6_1) = a1
          · rw [if_pos c6] at H
            have c6b0 : ((bt a0 x6_1) == a1) = true := beq_iff_eq.mpr c6
            have c6b1 : ((bt a0 x6_1) != a1) = false := bne_eq_false_iff_eq.mpr c6
            clear c6
            have H' := Aside0.mk H
            clear H
            have p5 : 0 ≤ (x6_1 : Int) := of_decide_eq_true (by first | (with_reducible assumption) | assumption)
            have q5 : x6_1 < (a0.size : Int) := of_decide_eq_true (by first | (with_reducible assumption) | assumption)
            have hx5 := bt_at a0 x6_1
            replace p5 := eq_true p5
            replace q5 := eq_true q5
            go_wp2
            go_roundg k1
            case measure => have := HK1.out; omega
            case rel => exact ⟨(wrap64 (x5_1 + 1)), (wrap64 (x6_1 + 1)), (by first | rfl | (simp; done) | (simp [*]; done)), (by first | rfl | (simp; done) | (simp [*]; done)), H', ⟨by have := HK1.out; omega⟩, by repeat (first | exact Drawn0.refl _ | apply Drawn0.step)⟩
          · rw [if_neg c6] at H
            have c6b0 : ((bt a0 x6_1) == a1) = false := beq_eq_false_iff_ne.mpr c6
            have c6b1 : ((bt a0 x6_1) != a1) = true := bne_iff_ne.mpr c6
            have H' := Aside0.mk H
            clear H
            have p5 : 0 ≤ (x6_1 : Int) := of_decide_eq_true (by first | (with_reducible assumption) | assumption)
            have q5 : x6_1 < (a0.size : Int) := of_decide_eq_true (by first | (with_reducible assumption) | assumption)
            have hx5 := bt_at a0 x6_1
            replace p5 := eq_true p5
            replace q5 := eq_true q5
            go_wp2
            go_roundg k1
            case measure => have := HK1.out; omega
            case rel => exact ⟨(x5_1), (wrap64 (x6_1 + 1)), (by first | rfl | (simp; done) | (simp [*]; done)), (by first | rfl | (simp; done) | (simp [*]; done)), H', ⟨by have := HK1.out; omega⟩, by repeat (first | exact Drawn0.refl _ | apply Drawn0.step)⟩
        · rw [if_neg c4] at H
          exact absurd H (by simp)
      · rw [if_neg c3] at H
        have c3b0 : decide (x6_1 < (a0.size : Int)) = false := decide_eq_false c3
        clear c3
        obtain rfl := Option.some.inj H
        go_wp2
        go_ret
        exact ⟨by first | rfl | (simp; done) | (simp [*]; done), by repeat (first | exact Drawn0.refl _ | apply Drawn0.step)⟩
mutual
def pomaderef04_Board.j0 : Nat → Int → ByteArray → Bool → Bool → Option (Int)
  | 0, _, _, _, _ => none
  | k + 1, x0, x1, x2, x13 => if x13 = true then (some 2) else (if (x1.size : Int) = (wrap64 (x0 * x0)) then (pomaderef04_Board.l0 k x1 x2 0) else (some 5))
def pomaderef04_Board.l0 : Nat → ByteArray → Bool → Int → Option (Int)
  | 0, _, _, _ => none
  | k + 1, x1, x2, x7 => if x7 < (x1.size : Int) then (if 0 ≤ x7 then (if (bt x1 x7) = 120 then (pomaderef04_Board.l0 k x1 x2 (wrap64 (x7 + 1))) else (if (bt x1 x7) = 111 then (pomaderef04_Board.l0 k x1 x2 (wrap64 (x7 + 1))) else (if (bt x1 x7) = 46 then (if x2 = true then (pomaderef04_Board.l0 k x1 x2 (wrap64 (x7 + 1))) else (some 5)) else (some 5)))) else (none)) else (some 0)
end
def pomaderef04_Board.f (k : Nat) (a0 : Int) (a1 : ByteArray) (a2 : Bool) : Option (Int) := if a0 < 1 then (pomaderef04_Board.j0 k a0 a1 a2 true) else (pomaderef04_Board.j0 k a0 a1 a2 (decide (a0 > 11)))
theorem pomaderef04_Board.mono_l : ∀ k, (∀ y0 y1 y2 y3, LeO (pomaderef04_Board.j0 k y0 y1 y2 y3) (pomaderef04_Board.j0 (k + 1) y0 y1 y2 y3)) ∧ (∀ y0 y1 y2, LeO (pomaderef04_Board.l0 k y0 y1 y2) (pomaderef04_Board.l0 (k + 1) y0 y1 y2))
  | 0 => ⟨fun _ _ _ _ r h => by simp [pomaderef04_Board.j0] at h, fun _ _ _ r h => by simp [pomaderef04_Board.l0] at h⟩
  | k + 1 => by
    obtain ⟨ih0, ih1⟩ := pomaderef04_Board.mono_l k
    refine ⟨?_, ?_⟩
    · intro y0 y1 y2 y3
      unfold pomaderef04_Board.j0
      repeat' first
      | (with_reducible exact ih0 _ _ _ _)
      | (with_reducible exact ih1 _ _ _)
      | (with_reducible exact LeO.refl _)
      | (with_reducible exact LeO.none _)
      | (with_reducible refine LeO.ite ?_ ?_)
      | (with_reducible refine LeO.bind ?_ (fun _ => ?_))
      | exact ih0 _ _ _ _
      | exact ih1 _ _ _
      | exact LeO.none _
      | refine LeO.ite ?_ ?_
      | refine LeO.bind ?_ (fun _ => ?_)
    · intro y0 y1 y2
      unfold pomaderef04_Board.l0
      repeat' first
      | (with_reducible exact ih0 _ _ _ _)
      | (with_reducible exact ih1 _ _ _)
      | (with_reducible exact LeO.refl _)
      | (with_reducible exact LeO.none _)
      | (with_reducible refine LeO.ite ?_ ?_)
      | (with_reducible refine LeO.bind ?_ (fun _ => ?_))
      | exact ih0 _ _ _ _
      | exact ih1 _ _ _
      | exact LeO.none _
      | refine LeO.ite ?_ ?_
      | refine LeO.bind ?_ (fun _ => ?_)
theorem pomaderef04_Board.mono : ∀ a0 a1 a2 k, LeO (pomaderef04_Board.f k a0 a1 a2) (pomaderef04_Board.f (k + 1) a0 a1 a2) := by
  intro a0 a1 a2 k
  obtain ⟨ih0, ih1⟩ := pomaderef04_Board.mono_l k
  unfold pomaderef04_Board.f
  repeat' first
      | (with_reducible exact ih0 _ _ _ _)
      | (with_reducible exact ih1 _ _ _)
      | (with_reducible exact LeO.refl _)
      | (with_reducible exact LeO.none _)
      | (with_reducible refine LeO.ite ?_ ?_)
      | (with_reducible refine LeO.bind ?_ (fun _ => ?_))
      | exact ih0 _ _ _ _
      | exact ih1 _ _ _
      | exact LeO.none _
      | refine LeO.ite ?_ ?_
      | refine LeO.bind ?_ (fun _ => ?_)
set_option maxHeartbeats 8000000 in
set_option maxRecDepth 100000 in
theorem pomaderef04_Board.calls (k : Nat) (a0 : Int) (a1 : ByteArray) (a2 : Bool) (r : Int) (w : World) (h : pomaderef04_Board.f k a0 a1 a2 = some r) :
    Calls Tryd.prog 22 #[.int .i64 a0, .string a1, .bool a2] w fun e w' => e = .returned (.int .i64 r) ∧ Drawn0 w w' := by
  have H : (if a0 < 1 then (pomaderef04_Board.j0 k a0 a1 a2 true) else (pomaderef04_Board.j0 k a0 a1 a2 (decide (a0 > 11)))) = some r := h
  clear h
  have HC4 := Aside0.mk H
  clear H
  go_enter Tryd.func22, Tryd.ntmps22
  go_upto_region 1 with (fail)
  go_cut [13] (fun v13 wc => ∃ (kq : Nat) (x13_3 : Bool), v13 = .bool x13_3 ∧ Aside0 (pomaderef04_Board.j0 kq a0 a1 a2 x13_3 = some r) ∧ Aside0 (kq ≤ k) ∧ Drawn0 w wc)
  case first =>
    have H := HC4.out
    clear HC4
    by_cases c5 : a0 < 1
    · rw [if_pos c5] at H
      have c5b0 : decide (a0 < 1) = true := decide_eq_true c5
      clear c5
      (first | rw [c5b0] | (simp only [i64_w, i32_w]; rw [c5b0]) | skip)
      have H' := Aside0.mk H
      clear H
      go_wp2
      go_meet
      case rel => exact ⟨_, (true), (by first | rfl | (simp; done) | (simp [*]; done)), H', ⟨by first | omega | exact Nat.le_refl _⟩, by repeat (first | exact Drawn0.refl _ | apply Drawn0.step)⟩
    · rw [if_neg c5] at H
      have c5b0 : decide (a0 < 1) = false := decide_eq_false c5
      clear c5
      (first | rw [c5b0] | (simp only [i64_w, i32_w]; rw [c5b0]) | skip)
      have H' := Aside0.mk H
      clear H
      go_wp2
      go_meet
      case rel => exact ⟨_, (decide (a0 > 11)), (by first | rfl | (simp; done) | (simp [*]; done)), H', ⟨by first | omega | exact Nat.le_refl _⟩, by repeat (first | exact Drawn0.refl _ | apply Drawn0.step)⟩
  case rest =>
    clear HC4
    try clear c2
    try clear p2
    try clear c5
    try clear c5b0
    obtain ⟨kq, x13_3, rfl, HA, HJ3, ⟨mc3, rfl⟩⟩ := hcut
    cases kq with
    | zero => exact absurd HA.out (by simp [pomaderef04_Board.j0])
    | succ kj3 =>
      have H := HA.out
      clear HA
      simp only [pomaderef04_Board.j0] at H
      by_cases c6 : x13_3 = true
      · subst c6
        have H1 : (some 2) = some r := by rw [if_pos rfl] at H; exact H
        clear H
        have H := H1
        clear H1
        obtain rfl := Option.some.inj H
        go_wp2
        go_ret
        exact ⟨by first | rfl | (simp; done) | (simp [*]; done), by repeat (first | exact Drawn0.refl _ | apply Drawn0.step)⟩
      · replace c6 := Bool.eq_false_iff.mpr c6
        subst c6
        have H1 : (if (a1.size : Int) = (wrap64 (a0 * a0)) then (pomaderef04_Board.l0 kj3 a1 a2 0) else (some 5)) = some r := by rw [if_neg (show ¬ (false = true) by decide)] at H; exact H
        clear H
        have H := H1
        clear H1
        by_cases c7 : (a1.size : Int) = (wrap64 (a0 * a0))
        · rw [if_pos c7] at H
          have c7b0 : ((a1.size : Int) == (wrap64 (a0 * a0))) = true := beq_iff_eq.mpr c7
          have c7b1 : ((a1.size : Int) != (wrap64 (a0 * a0))) = false := bne_eq_false_iff_eq.mpr c7
          clear c7
          have H' := Aside0.mk H
          clear H
          go_wp2
          go_loopg [7] kj3 (fun kq v7 w' => ∃ (x7_2 : Int), v7 = .int .i64 x7_2 ∧ Aside0 (pomaderef04_Board.l0 kq a1 a2 x7_2 = some r) ∧ Aside0 (kq ≤ kj3) ∧ Drawn0 w w')
          case atStart => exact ⟨(0), (by first | rfl | (simp; done) | (simp [*]; done)), H', ⟨Nat.le_refl _⟩, by repeat (first | exact Drawn0.refl _ | apply Drawn0.step)⟩
          case round =>
            clear H'
            try clear c2
            try clear p2
            try clear c3
            try clear c5
            try clear c5b0
            try clear c6
            try clear p6
            try clear c7
            try clear c7b0
            try clear c7b1
            try clear p2
            obtain ⟨x7_2, rfl, HA, HK2, ⟨m2, rfl⟩⟩ := hrel
            cases gk with
            | zero => exact absurd HA.out (by simp [pomaderef04_Board.l0])
            | succ k2 =>
              have H := HA.out
              clear HA
              simp only [pomaderef04_Board.l0] at H
              by_cases c8 : x7_2 < (a1.size : Int)
              · rw [if_pos c8] at H
                have c8b0 : decide (x7_2 < (a1.size : Int)) = true := decide_eq_true c8
                clear c8
                by_cases c9 : 0 ≤ x7_2
                · rw [if_pos c9] at H
                  have c9b0 : decide (0 ≤ x7_2) = true := decide_eq_true c9
                  clear c9
                  by_cases c11 : (bt a1 x7_2) = 120
                  · rw [if_pos c11] at H
                    have c11b0 : ((bt a1 x7_2) == 120) = true := beq_iff_eq.mpr c11
                    have c11b1 : ((bt a1 x7_2) != 120) = false := bne_eq_false_iff_eq.mpr c11
                    clear c11
                    have H' := Aside0.mk H
                    clear H
                    have p10 : 0 ≤ (x7_2 : Int) := of_decide_eq_true (by first | (with_reducible assumption) | assumption)
                    have q10 : x7_2 < (a1.size : Int) := of_decide_eq_true (by first | (with_reducible assumption) | assumption)
                    have hx10 := bt_at a1 x7_2
                    replace p10 := eq_true p10
                    replace q10 := eq_true q10
                    go_wp2
                    go_roundg k2
                    case measure => have := HJ3.out; have := HK2.out; omega
                    case rel => exact ⟨(wrap64 (x7_2 + 1)), (by first | rfl | (simp; done) | (simp [*]; done)), H', ⟨by have := HJ3.out; have := HK2.out; omega⟩, by repeat (first | exact Drawn0.refl _ | apply Drawn0.step)⟩
                  · rw [if_neg c11] at H
                    have c11b0 : ((bt a1 x7_2) == 120) = false := beq_eq_false_iff_ne.mpr c11
                    have c11b1 : ((bt a1 x7_2) != 120) = true := bne_iff_ne.mpr c11
                    by_cases c13 : (bt a1 x7_2) = 111
                    · rw [if_pos c13] at H
                      have c13b0 : ((bt a1 x7_2) == 111) = true := beq_iff_eq.mpr c13
                      have c13b1 : ((bt a1 x7_2) != 111) = false := bne_eq_false_iff_eq.mpr c13
                      clear c13
                      have H' := Aside0.mk H
                      clear H
                      have p10 : 0 ≤ (x7_2 : Int) := of_decide_eq_true (by first | (with_reducible assumption) | assumption)
                      have q10 : x7_2 < (a1.size : Int) := of_decide_eq_true (by first | (with_reducible assumption) | assumption)
                      have hx10 := bt_at a1 x7_2
                      replace p10 := eq_true p10
                      replace q10 := eq_true q10
                      have p12 : 0 ≤ (x7_2 : Int) := of_decide_eq_true (by first | (with_reducible assumption) | assumption)
                      have q12 : x7_2 < (a1.size : Int) := of_decide_eq_true (by first | (with_reducible assumption) | assumption)
                      have hx12 := bt_at a1 x7_2
                      replace p12 := eq_true p12
                      replace q12 := eq_true q12
                      go_wp2
                      go_roundg k2
                      case measure => have := HJ3.out; have := HK2.out; omega
                      case rel => exact ⟨(wrap64 (x7_2 + 1)), (by first | rfl | (simp; done) | (simp [*]; done)), H', ⟨by have := HJ3.out; have := HK2.out; omega⟩, by repeat (first | exact Drawn0.refl _ | apply Drawn0.step)⟩
                    · rw [if_neg c13] at H
                      have c13b0 : ((bt a1 x7_2) == 111) = false := beq_eq_false_iff_ne.mpr c13
                      have c13b1 : ((bt a1 x7_2) != 111) = true := bne_iff_ne.mpr c13
                      by_cases c15 : (bt a1 x7_2) = 46
                      · rw [if_pos c15] at H
                        have c15b0 : ((bt a1 x7_2) == 46) = true := beq_iff_eq.mpr c15
                        have c15b1 : ((bt a1 x7_2) != 46) = false := bne_eq_false_iff_eq.mpr c15
                        clear c15
                        by_cases c16 : a2 = true
                        · subst c16
                          have H1 : (pomaderef04_Board.l0 k2 a1 true (wrap64 (x7_2 + 1))) = some r := by rw [if_pos rfl] at H; exact H
                          clear H
                          have H := H1
                          clear H1
                          have H' := Aside0.mk H
                          clear H
                          have p10 : 0 ≤ (x7_2 : Int) := of_decide_eq_true (by first | (with_reducible assumption) | assumption)
                          have q10 : x7_2 < (a1.size : Int) := of_decide_eq_true (by first | (with_reducible assumption) | assumption)
                          have hx10 := bt_at a1 x7_2
                          replace p10 := eq_true p10
                          replace q10 := eq_true q10
                          have p12 : 0 ≤ (x7_2 : Int) := of_decide_eq_true (by first | (with_reducible assumption) | assumption)
                          have q12 : x7_2 < (a1.size : Int) := of_decide_eq_true (by first | (with_reducible assumption) | assumption)
                          have hx12 := bt_at a1 x7_2
                          replace p12 := eq_true p12
                          replace q12 := eq_true q12
                          have p14 : 0 ≤ (x7_2 : Int) := of_decide_eq_true (by first | (with_reducible assumption) | assumption)
                          have q14 : x7_2 < (a1.size : Int) := of_decide_eq_true (by first | (with_reducible assumption) | assumption)
                          have hx14 := bt_at a1 x7_2
                          replace p14 := eq_true p14
                          replace q14 := eq_true q14
                          go_wp2
                          go_roundg k2
                          case measure => have := HJ3.out; have := HK2.out; omega
                          case rel => exact ⟨(wrap64 (x7_2 + 1)), (by first | rfl | (simp; done) | (simp [*]; done)), H', ⟨by have := HJ3.out; have := HK2.out; omega⟩, by repeat (first | exact Drawn0.refl _ | apply Drawn0.step)⟩
                        · replace c16 := Bool.eq_false_iff.mpr c16
                          subst c16
                          have H1 : (some 5) = some r := by rw [if_neg (show ¬ (false = true) by decide)] at H; exact H
                          clear H
                          have H := H1
                          clear H1
                          obtain rfl := Option.some.inj H
                          have p10 : 0 ≤ (x7_2 : Int) := of_decide_eq_true (by first | (with_reducible assumption) | assumption)
                          have q10 : x7_2 < (a1.size : Int) := of_decide_eq_true (by first | (with_reducible assumption) | assumption)
                          have hx10 := bt_at a1 x7_2
                          replace p10 := eq_true p10
                          replace q10 := eq_true q10
                          have p12 : 0 ≤ (x7_2 : Int) := of_decide_eq_true (by first | (with_reducible assumption) | assumption)
                          have q12 : x7_2 < (a1.size : Int) := of_decide_eq_true (by first | (with_reducible assumption) | assumption)
                          have hx12 := bt_at a1 x7_2
                          replace p12 := eq_true p12
                          replace q12 := eq_true q12
                          have p14 : 0 ≤ (x7_2 : Int) := of_decide_eq_true (by first | (with_reducible assumption) | assumption)
                          have q14 : x7_2 < (a1.size : Int) := of_decide_eq_true (by first | (with_reducible assumption) | assumption)
                          have hx14 := bt_at a1 x7_2
                          replace p14 := eq_true p14
                          replace q14 := eq_true q14
                          go_wp2
                          go_ret
                          exact ⟨by first | rfl | (simp; done) | (simp [*]; done), by repeat (first | exact Drawn0.refl _ | apply Drawn0.step)⟩
                      · rw [if_neg c15] at H
                        have c15b0 : ((bt a1 x7_2) == 46) = false := beq_eq_false_iff_ne.mpr c15
                        have c15b1 : ((bt a1 x7_2) != 46) = true := bne_iff_ne.mpr c15
                        obtain rfl := Option.some.inj H
                        have p10 : 0 ≤ (x7_2 : Int) := of_decide_eq_true (by first | (with_reducible assumption) | assumption)
                        have q10 : x7_2 < (a1.size : Int) := of_decide_eq_true (by first | (with_reducible assumption) | assumption)
                        have hx10 := bt_at a1 x7_2
                        replace p10 := eq_true p10
                        replace q10 := eq_true q10
                        have p12 : 0 ≤ (x7_2 : Int) := of_decide_eq_true (by first | (with_reducible assumption) | assumption)
                        have q12 : x7_2 < (a1.size : Int) := of_decide_eq_true (by first | (with_reducible assumption) | assumption)
                        have hx12 := bt_at a1 x7_2
                        replace p12 := eq_true p12
                        replace q12 := eq_true q12
                        have p14 : 0 ≤ (x7_2 : Int) := of_decide_eq_true (by first | (with_reducible assumption) | assumption)
                        have q14 : x7_2 < (a1.size : Int) := of_decide_eq_true (by first | (with_reducible assumption) | assumption)
                        have hx14 := bt_at a1 x7_2
                        replace p14 := eq_true p14
                        replace q14 := eq_true q14
                        go_wp2
                        go_ret
                        exact ⟨by first | rfl | (simp; done) | (simp [*]; done), by repeat (first | exact Drawn0.refl _ | apply Drawn0.step)⟩
                · rw [if_neg c9] at H
                  exact absurd H (by simp)
              · rw [if_neg c8] at H
                have c8b0 : decide (x7_2 < (a1.size : Int)) = false := decide_eq_false c8
                clear c8
                obtain rfl := Option.some.inj H
                go_wp2
                go_ret
                exact ⟨by first | rfl | (simp; done) | (simp [*]; done), by repeat (first | exact Drawn0.refl _ | apply Drawn0.step)⟩
        · rw [if_neg c7] at H
          have c7b0 : ((a1.size : Int) == (wrap64 (a0 * a0))) = false := beq_eq_false_iff_ne.mpr c7
          have c7b1 : ((a1.size : Int) != (wrap64 (a0 * a0))) = true := bne_iff_ne.mpr c7
          obtain rfl := Option.some.inj H
          go_wp2
          go_ret
          exact ⟨by first | rfl | (simp; done) | (simp [*]; done), by repeat (first | exact Drawn0.refl _ | apply Drawn0.step)⟩
def pomaderef04_Near.f (a0 : Int) (a1 : Int) (a2 : Int) : Option (Bool) := if a0 = 0 then (none) else (if (wrap64 ((wrap64 (Int.tdiv a2 a0)) - (wrap64 (Int.tdiv a1 a0)))) = 0 then (if (wrap64 ((Int.tmod a2 a0) - (Int.tmod a1 a0))) = 1 then (some true) else (if (wrap64 ((Int.tmod a2 a0) - (Int.tmod a1 a0))) = (-1) then (some true) else (if (wrap64 ((wrap64 (Int.tdiv a2 a0)) - (wrap64 (Int.tdiv a1 a0)))) = (-1) then (if (wrap64 ((Int.tmod a2 a0) - (Int.tmod a1 a0))) = 0 then (some true) else (if (wrap64 ((wrap64 (Int.tdiv a2 a0)) - (wrap64 (Int.tdiv a1 a0)))) = 1 then (some ((wrap64 ((Int.tmod a2 a0) - (Int.tmod a1 a0))) == 0)) else (some false))) else (if (wrap64 ((wrap64 (Int.tdiv a2 a0)) - (wrap64 (Int.tdiv a1 a0)))) = 1 then (some ((wrap64 ((Int.tmod a2 a0) - (Int.tmod a1 a0))) == 0)) else (some false))))) else (if (wrap64 ((wrap64 (Int.tdiv a2 a0)) - (wrap64 (Int.tdiv a1 a0)))) = (-1) then (if (wrap64 ((Int.tmod a2 a0) - (Int.tmod a1 a0))) = 0 then (some true) else (if (wrap64 ((Int.tmod a2 a0) - (Int.tmod a1 a0))) = 1 then (some true) else (if (wrap64 ((wrap64 (Int.tdiv a2 a0)) - (wrap64 (Int.tdiv a1 a0)))) = 1 then (if (wrap64 ((Int.tmod a2 a0) - (Int.tmod a1 a0))) = (-1) then (some true) else (some ((wrap64 ((Int.tmod a2 a0) - (Int.tmod a1 a0))) == 0))) else (some false)))) else (if (wrap64 ((wrap64 (Int.tdiv a2 a0)) - (wrap64 (Int.tdiv a1 a0)))) = 1 then (if (wrap64 ((Int.tmod a2 a0) - (Int.tmod a1 a0))) = (-1) then (some true) else (some ((wrap64 ((Int.tmod a2 a0) - (Int.tmod a1 a0))) == 0))) else (some false))))
set_option maxHeartbeats 8000000 in
set_option maxRecDepth 100000 in
theorem pomaderef04_Near.calls (a0 : Int) (a1 : Int) (a2 : Int) (r : Bool) (w : World) (h : pomaderef04_Near.f a0 a1 a2 = some r) :
    Calls Tryd.prog 68 #[.int .i64 a0, .int .i64 a1, .int .i64 a2] w fun e w' => e = .returned (.bool r) ∧ Drawn0 w w' := by
  have H : (if a0 = 0 then (none) else (if (wrap64 ((wrap64 (Int.tdiv a2 a0)) - (wrap64 (Int.tdiv a1 a0)))) = 0 then (if (wrap64 ((Int.tmod a2 a0) - (Int.tmod a1 a0))) = 1 then (some true) else (if (wrap64 ((Int.tmod a2 a0) - (Int.tmod a1 a0))) = (-1) then (some true) else (if (wrap64 ((wrap64 (Int.tdiv a2 a0)) - (wrap64 (Int.tdiv a1 a0)))) = (-1) then (if (wrap64 ((Int.tmod a2 a0) - (Int.tmod a1 a0))) = 0 then (some true) else (if (wrap64 ((wrap64 (Int.tdiv a2 a0)) - (wrap64 (Int.tdiv a1 a0)))) = 1 then (some ((wrap64 ((Int.tmod a2 a0) - (Int.tmod a1 a0))) == 0)) else (some false))) else (if (wrap64 ((wrap64 (Int.tdiv a2 a0)) - (wrap64 (Int.tdiv a1 a0)))) = 1 then (some ((wrap64 ((Int.tmod a2 a0) - (Int.tmod a1 a0))) == 0)) else (some false))))) else (if (wrap64 ((wrap64 (Int.tdiv a2 a0)) - (wrap64 (Int.tdiv a1 a0)))) = (-1) then (if (wrap64 ((Int.tmod a2 a0) - (Int.tmod a1 a0))) = 0 then (some true) else (if (wrap64 ((Int.tmod a2 a0) - (Int.tmod a1 a0))) = 1 then (some true) else (if (wrap64 ((wrap64 (Int.tdiv a2 a0)) - (wrap64 (Int.tdiv a1 a0)))) = 1 then (if (wrap64 ((Int.tmod a2 a0) - (Int.tmod a1 a0))) = (-1) then (some true) else (some ((wrap64 ((Int.tmod a2 a0) - (Int.tmod a1 a0))) == 0))) else (some false)))) else (if (wrap64 ((wrap64 (Int.tdiv a2 a0)) - (wrap64 (Int.tdiv a1 a0)))) = 1 then (if (wrap64 ((Int.tmod a2 a0) - (Int.tmod a1 a0))) = (-1) then (some true) else (some ((wrap64 ((Int.tmod a2 a0) - (Int.tmod a1 a0))) == 0))) else (some false))))) = some r := h
  clear h
  by_cases c4 : a0 = 0
  · rw [if_pos c4] at H
    exact absurd H (by simp)
  · rw [if_neg c4] at H
    have c4b0 : (a0 == 0) = false := beq_eq_false_iff_ne.mpr c4
    have c4b1 : (a0 != 0) = true := bne_iff_ne.mpr c4
    by_cases c5 : (wrap64 ((wrap64 (Int.tdiv a2 a0)) - (wrap64 (Int.tdiv a1 a0)))) = 0
    · rw [if_pos c5] at H
      have c5b0 : ((wrap64 ((wrap64 (Int.tdiv a2 a0)) - (wrap64 (Int.tdiv a1 a0)))) == 0) = true := beq_iff_eq.mpr c5
      have c5b1 : ((wrap64 ((wrap64 (Int.tdiv a2 a0)) - (wrap64 (Int.tdiv a1 a0)))) != 0) = false := bne_eq_false_iff_eq.mpr c5
      clear c5
      by_cases c6 : (wrap64 ((Int.tmod a2 a0) - (Int.tmod a1 a0))) = 1
      · rw [if_pos c6] at H
        have c6b0 : ((wrap64 ((Int.tmod a2 a0) - (Int.tmod a1 a0))) == 1) = true := beq_iff_eq.mpr c6
        have c6b1 : ((wrap64 ((Int.tmod a2 a0) - (Int.tmod a1 a0))) != 1) = false := bne_eq_false_iff_eq.mpr c6
        clear c6
        obtain rfl := Option.some.inj H
        go_enter Tryd.func68, Tryd.ntmps68
        go_wp2
        repeat (go_quiet (fail); try go_wp2)
        go_ret
        exact ⟨by first | rfl | (simp; done) | (simp [*]; done), by repeat (first | exact Drawn0.refl _ | apply Drawn0.step)⟩
      · rw [if_neg c6] at H
        have c6b0 : ((wrap64 ((Int.tmod a2 a0) - (Int.tmod a1 a0))) == 1) = false := beq_eq_false_iff_ne.mpr c6
        have c6b1 : ((wrap64 ((Int.tmod a2 a0) - (Int.tmod a1 a0))) != 1) = true := bne_iff_ne.mpr c6
        by_cases c7 : (wrap64 ((Int.tmod a2 a0) - (Int.tmod a1 a0))) = (-1)
        · rw [if_pos c7] at H
          have c7b0 : ((wrap64 ((Int.tmod a2 a0) - (Int.tmod a1 a0))) == (-1)) = true := beq_iff_eq.mpr c7
          have c7b1 : ((wrap64 ((Int.tmod a2 a0) - (Int.tmod a1 a0))) != (-1)) = false := bne_eq_false_iff_eq.mpr c7
          clear c7
          obtain rfl := Option.some.inj H
          go_enter Tryd.func68, Tryd.ntmps68
          go_wp2
          repeat (go_quiet (fail); try go_wp2)
          go_ret
          exact ⟨by first | rfl | (simp; done) | (simp [*]; done), by repeat (first | exact Drawn0.refl _ | apply Drawn0.step)⟩
        · rw [if_neg c7] at H
          have c7b0 : ((wrap64 ((Int.tmod a2 a0) - (Int.tmod a1 a0))) == (-1)) = false := beq_eq_false_iff_ne.mpr c7
          have c7b1 : ((wrap64 ((Int.tmod a2 a0) - (Int.tmod a1 a0))) != (-1)) = true := bne_iff_ne.mpr c7
          by_cases c8 : (wrap64 ((wrap64 (Int.tdiv a2 a0)) - (wrap64 (Int.tdiv a1 a0)))) = (-1)
          · rw [if_pos c8] at H
            have c8b0 : ((wrap64 ((wrap64 (Int.tdiv a2 a0)) - (wrap64 (Int.tdiv a1 a0)))) == (-1)) = true := beq_iff_eq.mpr c8
            have c8b1 : ((wrap64 ((wrap64 (Int.tdiv a2 a0)) - (wrap64 (Int.tdiv a1 a0)))) != (-1)) = false := bne_eq_false_iff_eq.mpr c8
            clear c8
            by_cases c9 : (wrap64 ((Int.tmod a2 a0) - (Int.tmod a1 a0))) = 0
            · rw [if_pos c9] at H
              have c9b0 : ((wrap64 ((Int.tmod a2 a0) - (Int.tmod a1 a0))) == 0) = true := beq_iff_eq.mpr c9
              have c9b1 : ((wrap64 ((Int.tmod a2 a0) - (Int.tmod a1 a0))) != 0) = false := bne_eq_false_iff_eq.mpr c9
              clear c9
              obtain rfl := Option.some.inj H
              go_enter Tryd.func68, Tryd.ntmps68
              go_wp2
              repeat (go_quiet (fail); try go_wp2)
              go_ret
              exact ⟨by first | rfl | (simp; done) | (simp [*]; done), by repeat (first | exact Drawn0.refl _ | apply Drawn0.step)⟩
            · rw [if_neg c9] at H
              have c9b0 : ((wrap64 ((Int.tmod a2 a0) - (Int.tmod a1 a0))) == 0) = false := beq_eq_false_iff_ne.mpr c9
              have c9b1 : ((wrap64 ((Int.tmod a2 a0) - (Int.tmod a1 a0))) != 0) = true := bne_iff_ne.mpr c9
              by_cases c10 : (wrap64 ((wrap64 (Int.tdiv a2 a0)) - (wrap64 (Int.tdiv a1 a0)))) = 1
              · rw [if_pos c10] at H
                have c10b0 : ((wrap64 ((wrap64 (Int.tdiv a2 a0)) - (wrap64 (Int.tdiv a1 a0)))) == 1) = true := beq_iff_eq.mpr c10
                have c10b1 : ((wrap64 ((wrap64 (Int.tdiv a2 a0)) - (wrap64 (Int.tdiv a1 a0)))) != 1) = false := bne_eq_false_iff_eq.mpr c10
                clear c10
                obtain rfl := Option.some.inj H
                go_enter Tryd.func68, Tryd.ntmps68
                go_wp2
                repeat (go_quiet (fail); try go_wp2)
                go_ret
                exact ⟨by first | rfl | (simp; done) | (simp [*]; done), by repeat (first | exact Drawn0.refl _ | apply Drawn0.step)⟩
              · rw [if_neg c10] at H
                have c10b0 : ((wrap64 ((wrap64 (Int.tdiv a2 a0)) - (wrap64 (Int.tdiv a1 a0)))) == 1) = false := beq_eq_false_iff_ne.mpr c10
                have c10b1 : ((wrap64 ((wrap64 (Int.tdiv a2 a0)) - (wrap64 (Int.tdiv a1 a0)))) != 1) = true := bne_iff_ne.mpr c10
                obtain rfl := Option.some.inj H
                go_enter Tryd.func68, Tryd.ntmps68
                go_wp2
                repeat (go_quiet (fail); try go_wp2)
                go_ret
                exact ⟨by first | rfl | (simp; done) | (simp [*]; done), by repeat (first | exact Drawn0.refl _ | apply Drawn0.step)⟩
          · rw [if_neg c8] at H
            have c8b0 : ((wrap64 ((wrap64 (Int.tdiv a2 a0)) - (wrap64 (Int.tdiv a1 a0)))) == (-1)) = false := beq_eq_false_iff_ne.mpr c8
            have c8b1 : ((wrap64 ((wrap64 (Int.tdiv a2 a0)) - (wrap64 (Int.tdiv a1 a0)))) != (-1)) = true := bne_iff_ne.mpr c8
            by_cases c11 : (wrap64 ((wrap64 (Int.tdiv a2 a0)) - (wrap64 (Int.tdiv a1 a0)))) = 1
            · rw [if_pos c11] at H
              have c11b0 : ((wrap64 ((wrap64 (Int.tdiv a2 a0)) - (wrap64 (Int.tdiv a1 a0)))) == 1) = true := beq_iff_eq.mpr c11
              have c11b1 : ((wrap64 ((wrap64 (Int.tdiv a2 a0)) - (wrap64 (Int.tdiv a1 a0)))) != 1) = false := bne_eq_false_iff_eq.mpr c11
              clear c11
              obtain rfl := Option.some.inj H
              go_enter Tryd.func68, Tryd.ntmps68
              go_wp2
              repeat (go_quiet (fail); try go_wp2)
              go_ret
              exact ⟨by first | rfl | (simp; done) | (simp [*]; done), by repeat (first | exact Drawn0.refl _ | apply Drawn0.step)⟩
            · rw [if_neg c11] at H
              have c11b0 : ((wrap64 ((wrap64 (Int.tdiv a2 a0)) - (wrap64 (Int.tdiv a1 a0)))) == 1) = false := beq_eq_false_iff_ne.mpr c11
              have c11b1 : ((wrap64 ((wrap64 (Int.tdiv a2 a0)) - (wrap64 (Int.tdiv a1 a0)))) != 1) = true := bne_iff_ne.mpr c11
              obtain rfl := Option.some.inj H
              go_enter Tryd.func68, Tryd.ntmps68
              go_wp2
              repeat (go_quiet (fail); try go_wp2)
              go_ret
              exact ⟨by first | rfl | (simp; done) | (simp [*]; done), by repeat (first | exact Drawn0.refl _ | apply Drawn0.step)⟩
    · rw [if_neg c5] at H
      have c5b0 : ((wrap64 ((wrap64 (Int.tdiv a2 a0)) - (wrap64 (Int.tdiv a1 a0)))) == 0) = false := beq_eq_false_iff_ne.mpr c5
      have c5b1 : ((wrap64 ((wrap64 (Int.tdiv a2 a0)) - (wrap64 (Int.tdiv a1 a0)))) != 0) = true := bne_iff_ne.mpr c5
      by_cases c12 : (wrap64 ((wrap64 (Int.tdiv a2 a0)) - (wrap64 (Int.tdiv a1 a0)))) = (-1)
      · rw [if_pos c12] at H
        have c12b0 : ((wrap64 ((wrap64 (Int.tdiv a2 a0)) - (wrap64 (Int.tdiv a1 a0)))) == (-1)) = true := beq_iff_eq.mpr c12
        have c12b1 : ((wrap64 ((wrap64 (Int.tdiv a2 a0)) - (wrap64 (Int.tdiv a1 a0)))) != (-1)) = false := bne_eq_false_iff_eq.mpr c12
        clear c12
        by_cases c13 : (wrap64 ((Int.tmod a2 a0) - (Int.tmod a1 a0))) = 0
        · rw [if_pos c13] at H
          have c13b0 : ((wrap64 ((Int.tmod a2 a0) - (Int.tmod a1 a0))) == 0) = true := beq_iff_eq.mpr c13
          have c13b1 : ((wrap64 ((Int.tmod a2 a0) - (Int.tmod a1 a0))) != 0) = false := bne_eq_false_iff_eq.mpr c13
          clear c13
          obtain rfl := Option.some.inj H
          go_enter Tryd.func68, Tryd.ntmps68
          go_wp2
          repeat (go_quiet (fail); try go_wp2)
          go_ret
          exact ⟨by first | rfl | (simp; done) | (simp [*]; done), by repeat (first | exact Drawn0.refl _ | apply Drawn0.step)⟩
        · rw [if_neg c13] at H
          have c13b0 : ((wrap64 ((Int.tmod a2 a0) - (Int.tmod a1 a0))) == 0) = false := beq_eq_false_iff_ne.mpr c13
          have c13b1 : ((wrap64 ((Int.tmod a2 a0) - (Int.tmod a1 a0))) != 0) = true := bne_iff_ne.mpr c13
          by_cases c14 : (wrap64 ((Int.tmod a2 a0) - (Int.tmod a1 a0))) = 1
          · rw [if_pos c14] at H
            have c14b0 : ((wrap64 ((Int.tmod a2 a0) - (Int.tmod a1 a0))) == 1) = true := beq_iff_eq.mpr c14
            have c14b1 : ((wrap64 ((Int.tmod a2 a0) - (Int.tmod a1 a0))) != 1) = false := bne_eq_false_iff_eq.mpr c14
            clear c14
            obtain rfl := Option.some.inj H
            go_enter Tryd.func68, Tryd.ntmps68
            go_wp2
            repeat (go_quiet (fail); try go_wp2)
            go_ret
            exact ⟨by first | rfl | (simp; done) | (simp [*]; done), by repeat (first | exact Drawn0.refl _ | apply Drawn0.step)⟩
          · rw [if_neg c14] at H
            have c14b0 : ((wrap64 ((Int.tmod a2 a0) - (Int.tmod a1 a0))) == 1) = false := beq_eq_false_iff_ne.mpr c14
            have c14b1 : ((wrap64 ((Int.tmod a2 a0) - (Int.tmod a1 a0))) != 1) = true := bne_iff_ne.mpr c14
            by_cases c15 : (wrap64 ((wrap64 (Int.tdiv a2 a0)) - (wrap64 (Int.tdiv a1 a0)))) = 1
            · rw [if_pos c15] at H
              have c15b0 : ((wrap64 ((wrap64 (Int.tdiv a2 a0)) - (wrap64 (Int.tdiv a1 a0)))) == 1) = true := beq_iff_eq.mpr c15
              have c15b1 : ((wrap64 ((wrap64 (Int.tdiv a2 a0)) - (wrap64 (Int.tdiv a1 a0)))) != 1) = false := bne_eq_false_iff_eq.mpr c15
              clear c15
              by_cases c16 : (wrap64 ((Int.tmod a2 a0) - (Int.tmod a1 a0))) = (-1)
              · rw [if_pos c16] at H
                have c16b0 : ((wrap64 ((Int.tmod a2 a0) - (Int.tmod a1 a0))) == (-1)) = true := beq_iff_eq.mpr c16
                have c16b1 : ((wrap64 ((Int.tmod a2 a0) - (Int.tmod a1 a0))) != (-1)) = false := bne_eq_false_iff_eq.mpr c16
                clear c16
                obtain rfl := Option.some.inj H
                go_enter Tryd.func68, Tryd.ntmps68
                go_wp2
                repeat (go_quiet (fail); try go_wp2)
                go_ret
                exact ⟨by first | rfl | (simp; done) | (simp [*]; done), by repeat (first | exact Drawn0.refl _ | apply Drawn0.step)⟩
              · rw [if_neg c16] at H
                have c16b0 : ((wrap64 ((Int.tmod a2 a0) - (Int.tmod a1 a0))) == (-1)) = false := beq_eq_false_iff_ne.mpr c16
                have c16b1 : ((wrap64 ((Int.tmod a2 a0) - (Int.tmod a1 a0))) != (-1)) = true := bne_iff_ne.mpr c16
                obtain rfl := Option.some.inj H
                go_enter Tryd.func68, Tryd.ntmps68
                go_wp2
                repeat (go_quiet (fail); try go_wp2)
                go_ret
                exact ⟨by first | rfl | (simp; done) | (simp [*]; done), by repeat (first | exact Drawn0.refl _ | apply Drawn0.step)⟩
            · rw [if_neg c15] at H
              have c15b0 : ((wrap64 ((wrap64 (Int.tdiv a2 a0)) - (wrap64 (Int.tdiv a1 a0)))) == 1) = false := beq_eq_false_iff_ne.mpr c15
              have c15b1 : ((wrap64 ((wrap64 (Int.tdiv a2 a0)) - (wrap64 (Int.tdiv a1 a0)))) != 1) = true := bne_iff_ne.mpr c15
              obtain rfl := Option.some.inj H
              go_enter Tryd.func68, Tryd.ntmps68
              go_wp2
              repeat (go_quiet (fail); try go_wp2)
              go_ret
              exact ⟨by first | rfl | (simp; done) | (simp [*]; done), by repeat (first | exact Drawn0.refl _ | apply Drawn0.step)⟩
      · rw [if_neg c12] at H
        have c12b0 : ((wrap64 ((wrap64 (Int.tdiv a2 a0)) - (wrap64 (Int.tdiv a1 a0)))) == (-1)) = false := beq_eq_false_iff_ne.mpr c12
        have c12b1 : ((wrap64 ((wrap64 (Int.tdiv a2 a0)) - (wrap64 (Int.tdiv a1 a0)))) != (-1)) = true := bne_iff_ne.mpr c12
        by_cases c17 : (wrap64 ((wrap64 (Int.tdiv a2 a0)) - (wrap64 (Int.tdiv a1 a0)))) = 1
        · rw [if_pos c17] at H
          have c17b0 : ((wrap64 ((wrap64 (Int.tdiv a2 a0)) - (wrap64 (Int.tdiv a1 a0)))) == 1) = true := beq_iff_eq.mpr c17
          have c17b1 : ((wrap64 ((wrap64 (Int.tdiv a2 a0)) - (wrap64 (Int.tdiv a1 a0)))) != 1) = false := bne_eq_false_iff_eq.mpr c17
          clear c17
          by_cases c18 : (wrap64 ((Int.tmod a2 a0) - (Int.tmod a1 a0))) = (-1)
          · rw [if_pos c18] at H
            have c18b0 : ((wrap64 ((Int.tmod a2 a0) - (Int.tmod a1 a0))) == (-1)) = true := beq_iff_eq.mpr c18
            have c18b1 : ((wrap64 ((Int.tmod a2 a0) - (Int.tmod a1 a0))) != (-1)) = false := bne_eq_false_iff_eq.mpr c18
            clear c18
            obtain rfl := Option.some.inj H
            go_enter Tryd.func68, Tryd.ntmps68
            go_wp2
            repeat (go_quiet (fail); try go_wp2)
            go_ret
            exact ⟨by first | rfl | (simp; done) | (simp [*]; done), by repeat (first | exact Drawn0.refl _ | apply Drawn0.step)⟩
          · rw [if_neg c18] at H
            have c18b0 : ((wrap64 ((Int.tmod a2 a0) - (Int.tmod a1 a0))) == (-1)) = false := beq_eq_false_iff_ne.mpr c18
            have c18b1 : ((wrap64 ((Int.tmod a2 a0) - (Int.tmod a1 a0))) != (-1)) = true := bne_iff_ne.mpr c18
            obtain rfl := Option.some.inj H
            go_enter Tryd.func68, Tryd.ntmps68
            go_wp2
            repeat (go_quiet (fail); try go_wp2)
            go_ret
            exact ⟨by first | rfl | (simp; done) | (simp [*]; done), by repeat (first | exact Drawn0.refl _ | apply Drawn0.step)⟩
        · rw [if_neg c17] at H
          have c17b0 : ((wrap64 ((wrap64 (Int.tdiv a2 a0)) - (wrap64 (Int.tdiv a1 a0)))) == 1) = false := beq_eq_false_iff_ne.mpr c17
          have c17b1 : ((wrap64 ((wrap64 (Int.tdiv a2 a0)) - (wrap64 (Int.tdiv a1 a0)))) != 1) = true := bne_iff_ne.mpr c17
          obtain rfl := Option.some.inj H
          go_enter Tryd.func68, Tryd.ntmps68
          go_wp2
          repeat (go_quiet (fail); try go_wp2)
          go_ret
          exact ⟨by first | rfl | (simp; done) | (simp [*]; done), by repeat (first | exact Drawn0.refl _ | apply Drawn0.step)⟩
def pomaderef04_begins.f (a0 : Int) (a1 : Int) (a2 : Int) : Option (Bool) := if a1 = 120 then (some (decide (a2 < a0))) else (if a0 = 0 then (none) else (some ((Int.tmod a2 a0) == 0)))
set_option maxHeartbeats 8000000 in
set_option maxRecDepth 100000 in
theorem pomaderef04_begins.calls (a0 : Int) (a1 : Int) (a2 : Int) (r : Bool) (w : World) (h : pomaderef04_begins.f a0 a1 a2 = some r) :
    Calls Tryd.prog 50 #[.int .i64 a0, .int .u8 a1, .int .i64 a2] w fun e w' => e = .returned (.bool r) ∧ Drawn0 w w' := by
  have H : (if a1 = 120 then (some (decide (a2 < a0))) else (if a0 = 0 then (none) else (some ((Int.tmod a2 a0) == 0)))) = some r := h
  clear h
  by_cases c4 : a1 = 120
  · rw [if_pos c4] at H
    have c4b0 : (a1 == 120) = true := beq_iff_eq.mpr c4
    have c4b1 : (a1 != 120) = false := bne_eq_false_iff_eq.mpr c4
    clear c4
    obtain rfl := Option.some.inj H
    go_enter Tryd.func50, Tryd.ntmps50
    go_wp2
    go_ret
    exact ⟨by first | rfl | (simp; done) | (simp [*]; done), by repeat (first | exact Drawn0.refl _ | apply Drawn0.step)⟩
  · rw [if_neg c4] at H
    have c4b0 : (a1 == 120) = false := beq_eq_false_iff_ne.mpr c4
    have c4b1 : (a1 != 120) = true := bne_iff_ne.mpr c4
    by_cases c5 : a0 = 0
    · rw [if_pos c5] at H
      exact absurd H (by simp)
    · rw [if_neg c5] at H
      have c5b0 : (a0 == 0) = false := beq_eq_false_iff_ne.mpr c5
      have c5b1 : (a0 != 0) = true := bne_iff_ne.mpr c5
      obtain rfl := Option.some.inj H
      go_enter Tryd.func50, Tryd.ntmps50
      go_wp2
      go_ret
      exact ⟨by first | rfl | (simp; done) | (simp [*]; done), by repeat (first | exact Drawn0.refl _ | apply Drawn0.step)⟩
def pomaderef04_ends.f (a0 : Int) (a1 : Int) (a2 : Int) : Option (Bool) := if a1 = 120 then (some (decide (a2 ≥ (wrap64 (a0 * (wrap64 (a0 - 1))))))) else (if a0 = 0 then (none) else (some ((Int.tmod a2 a0) == (wrap64 (a0 - 1)))))
set_option maxHeartbeats 8000000 in
set_option maxRecDepth 100000 in
theorem pomaderef04_ends.calls (a0 : Int) (a1 : Int) (a2 : Int) (r : Bool) (w : World) (h : pomaderef04_ends.f a0 a1 a2 = some r) :
    Calls Tryd.prog 69 #[.int .i64 a0, .int .u8 a1, .int .i64 a2] w fun e w' => e = .returned (.bool r) ∧ Drawn0 w w' := by
  have H : (if a1 = 120 then (some (decide (a2 ≥ (wrap64 (a0 * (wrap64 (a0 - 1))))))) else (if a0 = 0 then (none) else (some ((Int.tmod a2 a0) == (wrap64 (a0 - 1)))))) = some r := h
  clear h
  by_cases c4 : a1 = 120
  · rw [if_pos c4] at H
    have c4b0 : (a1 == 120) = true := beq_iff_eq.mpr c4
    have c4b1 : (a1 != 120) = false := bne_eq_false_iff_eq.mpr c4
    clear c4
    obtain rfl := Option.some.inj H
    go_enter Tryd.func69, Tryd.ntmps69
    go_wp2
    go_ret
    exact ⟨by first | rfl | (simp; done) | (simp [*]; done), by repeat (first | exact Drawn0.refl _ | apply Drawn0.step)⟩
  · rw [if_neg c4] at H
    have c4b0 : (a1 == 120) = false := beq_eq_false_iff_ne.mpr c4
    have c4b1 : (a1 != 120) = true := bne_iff_ne.mpr c4
    by_cases c5 : a0 = 0
    · rw [if_pos c5] at H
      exact absurd H (by simp)
    · rw [if_neg c5] at H
      have c5b0 : (a0 == 0) = false := beq_eq_false_iff_ne.mpr c5
      have c5b1 : (a0 != 0) = true := bne_iff_ne.mpr c5
      obtain rfl := Option.some.inj H
      go_enter Tryd.func69, Tryd.ntmps69
      go_wp2
      go_ret
      exact ⟨by first | rfl | (simp; done) | (simp [*]; done), by repeat (first | exact Drawn0.refl _ | apply Drawn0.step)⟩
end Go.Proofs.YtlmgkmmdaecpdaaDoor.Im

namespace Go.Proofs.YtlmgkmmdaecpdaaDoor.Mi
set_option linter.unusedVariables false
theorem min_ex (p : Nat → Prop) : ∀ n, p n → ∃ k, p k ∧ ∀ m, p m → k ≤ m := by
  intro n
  induction n using Nat.strongRecOn with
  | _ n ih =>
    intro hn
    by_cases h : ∃ m, m < n ∧ p m
    · obtain ⟨m, h1, h2⟩ := h
      exact ih m h1 h2
    · exact ⟨n, hn, fun m hm => by
        rcases Nat.lt_or_ge m n with h1 | h1
        · exact absurd ⟨m, h1, hm⟩ h
        · exact h1⟩
section
variable {m : Nat} {nb : Nat → Nat → Prop} {ok be en : Nat → Prop} {c : Nat → Nat}
theorem Least.pos {a d : Nat} (h : Dist m nb ok en a d) : a < m ∧ ok a ∧ 1 ≤ d := by
  obtain ⟨P, k1, k2, k3⟩ := h.real
  match P, k1, k2, k3 with
  | [], k1, _, _ => exact absurd rfl k1.ne
  | q :: t, k1, k2, k3 =>
    have k2 : q = a := k2
    subst k2
    have := k1.mem q (by simp)
    have k3 : 1 + costN one t = d := k3
    exact ⟨this.1, this.2, by omega⟩
theorem greedy_ex : ∀ (d a : Nat), Dist m nb ok en a (d + 1) → ∃ t, t.length = d ∧ Wy m nb ok en (a :: t) ∧ Greedy m nb ok en (a :: t)
  | 0, a, h => by
    have h1 := Dist.end_ h
    exact ⟨[], rfl, Wy.one h1.2.1 h1.2.2 h1.1, trivial⟩
  | d + 1, a, h => by
    obtain ⟨j0, h1, h2⟩ := Dist.next h
    obtain ⟨j, ⟨k1, k2⟩, k3⟩ := min_ex (fun j => nb a j ∧ Dist m nb ok en j (d + 1)) j0 ⟨h1, h2⟩
    obtain ⟨t, l1, l2, l3⟩ := greedy_ex d j k2
    have ha := Least.pos h
    refine ⟨j :: t, by simp [l1], l2.cons ha.1 ha.2.1 k1, ⟨k1, fun x hx hd => k3 x ⟨hx, ?_⟩⟩, l3⟩
    rw [l1] at hd
    exact hd
theorem First.ex {P : List Nat} (hP : Wy m nb ok en P) (hb : be (headN P)) : ∃ G, First m nb ok be en G := by
  obtain ⟨e, he⟩ := Least.ex (c := one) (a := headN P) _ ⟨P, hP, rfl, Nat.le_refl _⟩
  obtain ⟨d, ⟨a0, h1, h2⟩, h3⟩ := min_ex (fun d => ∃ a, be a ∧ Dist m nb ok en a d) e ⟨_, hb, he⟩
  obtain ⟨a, ⟨k1, k2⟩, k3⟩ := min_ex (fun a => be a ∧ Dist m nb ok en a d) a0 ⟨h1, h2⟩
  obtain ⟨r, rfl⟩ : ∃ r, d = r + 1 := ⟨d - 1, by have := (Least.pos k2).2.2; omega⟩
  obtain ⟨t, l1, l2, l3⟩ := greedy_ex r a k2
  have hl : (a :: t).length = r + 1 := by simp [l1]
  exact ⟨a :: t, l2, k1, by rw [hl]; exact k2, fun x d' hx hd => by rw [hl]; exact h3 d' ⟨x, hx, hd⟩, fun x hx hd => by rw [hl] at hd; exact k3 x ⟨hx, hd⟩, l3⟩
theorem Need.ex {P : List Nat} (hP : Wy m nb ok en P) (hb : be (headN P)) : ∃ d, Need m nb ok be en c d := by
  obtain ⟨d, ⟨Q, h1, h2, h3⟩, h4⟩ := min_ex (fun d => ∃ Q, Wy m nb ok en Q ∧ be (headN Q) ∧ costN c Q = d) _ ⟨P, hP, hb, rfl⟩
  exact ⟨d, ⟨Q, h1, h2, h3⟩, fun R r1 r2 => h4 _ ⟨R, r1, r2, rfl⟩⟩
end
end Go.Proofs.YtlmgkmmdaecpdaaDoor.Mi

namespace Go.Proofs.YtlmgkmmdaecpdaaDoor.Im
open Go.RowKit Go.Proofs.YtlmgkmmdaecpdaaDoorW.PrintWords Go.Proofs.YtlmgkmmdaecpdaaDoorW.PrintLast Go.Proofs.YtlmgkmmdaecpdaaDoorW.PrintMore Go.Proofs.YtlmgkmmdaecpdaaDoor.Mi
set_option linter.unusedVariables false
def xoB : ByteArray := ⟨#[120, 111]⟩
def xodB : ByteArray := ⟨#[120, 111, 46]⟩
theorem full_byte {n : Int} {s : ByteArray} (h : boE n s xoB = 0) {a : Nat} (ha : a < s.size) : (bsOf s).getD a 0 = 120 ∨ (bsOf s).getD a 0 = 111 := by
  unfold boE at h
  split at h
  · cases h
  · split at h
    · rename_i h2
      have ha' : a < s.data.size := ha
      have e : (bsOf s).getD a 0 = (s.data[a].toNat : Int) := by unfold bsOf; simp only [List.getD_eq_getElem?_getD, List.getElem?_map, Array.getElem?_toList]; rw [Array.getElem?_eq_getElem ha']; rfl
      have h3 := List.all_eq_true.1 h2.2 s.data[a] (by simp)
      have h4 : s.data[a] = 120 ∨ s.data[a] = 111 := by simpa [xoB] using h3
      rw [e]
      rcases h4 with h4 | h4
      · left; rw [h4]; rfl
      · right; rw [h4]; rfl
    · cases h
theorem boE_ok {n : Int} {s cs : ByteArray} (h : boE n s cs = 0) : 1 ≤ n ∧ n ≤ 11 ∧ s.size = n.toNat * n.toNat := by
  unfold boE at h
  split at h
  · cases h
  · split at h
    · rename_i h1 h2
      refine ⟨by omega, by omega, ?_⟩
      obtain ⟨m, rfl⟩ : ∃ m : Nat, n = m := ⟨n.toNat, by omega⟩
      have := h2.1
      rw [Int.toNat_natCast]
      rw [← Int.natCast_mul] at this
      omega
    · cases h
theorem enP_x {n a : Nat} : enP n 120 a ↔ Side n true (n - 1) a := by unfold enP endK Side; simp
theorem enP_o {n a : Nat} : enP n 111 a ↔ Side n false (n - 1) a := by unfold enP endK Side; simp
theorem beP_x {n a : Nat} : beP n 120 a ↔ Side n true 0 a := by unfold beP endK Side; simp
theorem beP_o {n a : Nat} : beP n 111 a ↔ Side n false 0 a := by unfold beP endK Side; simp
theorem brO_ex {n : Nat} {bs : List Int} {p : Int} {P : List Nat} (h : WyP n bs p P) (hb : beP n p (headN P)) : (brO n bs p).isSome := by
  obtain ⟨G, hG⟩ := First.ex h hb
  rw [brO_some hG]
  rfl
theorem full_one {n : Nat} {bs : List Int} (hn : 0 < n) (hf : ∀ a, a < n * n → bs.getD a 0 = 120 ∨ bs.getD a 0 = 111) : ((brO n bs 120).isSome ∧ brO n bs 111 = none ∧ winB n bs = 120) ∨ (brO n bs 120 = none ∧ (brO n bs 111).isSome ∧ winB n bs = 111) := by
  have tr : ∀ (x : Bool) P, Bridge n (fun a => bs.getD a 0 = 120) x P ↔ WyP n bs (if x then 120 else 111) P ∧ beP n (if x then 120 else 111) (headN P) := fun x P => by
    cases x with
    | true =>
      constructor
      · rintro ⟨h1, h2⟩
        exact ⟨⟨h1.ne, h1.chain, fun q hq => ⟨(h1.mem q hq).1, by have h := (h1.mem q hq).2; simp only [if_true] at h; exact h⟩, enP_x.2 h1.fin⟩, beP_x.2 h2⟩
      · rintro ⟨h1, h2⟩
        exact ⟨⟨h1.ne, h1.chain, fun q hq => ⟨(h1.mem q hq).1, by simp only [if_true]; exact (h1.mem q hq).2⟩, enP_x.1 h1.fin⟩, beP_x.1 h2⟩
    | false =>
      constructor
      · rintro ⟨h1, h2⟩
        exact ⟨⟨h1.ne, h1.chain, fun q hq => ⟨(h1.mem q hq).1, by
          have h3 : ¬ bs.getD q 0 = 120 := by simpa using (h1.mem q hq).2
          rcases hf q (h1.mem q hq).1 with h4 | h4
          · exact absurd h4 h3
          · exact h4⟩, enP_o.2 h1.fin⟩, beP_o.2 h2⟩
      · rintro ⟨h1, h2⟩
        exact ⟨⟨h1.ne, h1.chain, fun q hq => ⟨(h1.mem q hq).1, by
          have h3 : bs.getD q 0 = 111 := (h1.mem q hq).2
          show ¬ bs.getD q 0 = 120
          rw [h3]; decide⟩, enP_o.1 h1.fin⟩, beP_o.1 h2⟩
  have no : ∀ {p : Int}, (∀ P, WyP n bs p P → ¬ beP n p (headN P)) → brO n bs p = none := fun h => brO_none h
  rcases bridge_one hn (fun a => bs.getD a 0 = 120) with ⟨P, hP⟩ | ⟨P, hP⟩
  · left
    have h1 := (tr true P).1 hP
    have h2 := brO_ex h1.1 h1.2
    have h2 : (brO n bs 120).isSome := h2
    refine ⟨h2, no fun Q hQ hb => bridge_both hn hP ((tr false Q).2 ⟨hQ, hb⟩), ?_⟩
    unfold winB
    rw [if_pos h2]
  · right
    have h1 := (tr false P).1 hP
    have h2 : (brO n bs 111).isSome := brO_ex h1.1 h1.2
    have h3 : brO n bs 120 = none := no fun Q hQ hb => bridge_both hn ((tr true Q).2 ⟨hQ, hb⟩) hP
    refine ⟨h3, h2, ?_⟩
    unfold winB
    rw [h3, if_neg (by simp), if_pos h2]
theorem run_rune_x (w : World) : (convert 21 9 (.int .i32 120)).run Tryd.prog w = .ok (.string ⟨#[120]⟩) w := by kernel_rfl
theorem run_rune_o (w : World) : (convert 21 9 (.int .i32 111)).run Tryd.prog w = .ok (.string ⟨#[111]⟩) w := by kernel_rfl
def strP (p : Int) : ByteArray := ⟨#[UInt8.ofNat p.toNat]⟩
def WinnerPost (n : Int) (s : ByteArray) (w : World) (e : Ending) (w' : World) : Prop :=
  Below w.heap.size w w' ∧ if boE n s xoB = 0 then ∃ G A c, brO n.toNat (bsOf s) (winB n.toNat (bsOf s)) = some G ∧ e = .returned (.tuple #[.string (strP (winB n.toNat (bsOf s))), .slice (some A) G.length c, .int .i64 0]) ∧ Kd.R (Kd.int .i64) 3 w' w.heap.size (fun _ => True) (.slice (some A) G.length c) (ints G)
    else e = .returned (.tuple #[.string ⟨#[]⟩, .slice none 0 0, .int .i64 (boE n s xoB)])
set_option maxHeartbeats 3200000 in
set_option maxRecDepth 100000 in
theorem winner_call (n : Int) (s : ByteArray) (w : World) (hst : Steps w) (hs : s.size ≤ 9223372036854775807) :
    Calls Tryd.prog 24 #[.int .i64 n, .string s] w (WinnerPost n s w) := by
  have HBo := Aside0.mk (boarded_any n s xoB w hs (by decide) (by decide))
  have HS := Aside0.mk hst
  unfold xoB at HBo
  clear hst hs
  by_cases hE : boE n s xoB = 0
  · have hok := boE_ok hE
    have hone := full_one (bs := bsOf s) (n := n.toNat) (by omega) (fun a ha => full_byte hE (by omega))
    have HE := Aside0.mk hE
    have HO := Aside0.mk hone
    clear hE hok hone
    go_enter Tryd.func24, Tryd.ntmps24
    go_wp2_with fail
    refine HBo.out.mono ?_
    rintro e w1 ⟨hb1, h1⟩
    have h1' := h1
    unfold xoB at HE
    rw [if_pos HE.out] at h1
    obtain ⟨g, gb, cb, rfl, hbr, hby, _, _⟩ := h1
    have HB1 := Aside0.mk hb1
    have HBr := Aside0.mk hbr
    clear h1' hb1 hby hbr
    go_wp2_with fail
    refine (winner_any g _ gb cb _ _ (HS.out.later HB1.out) HBr.out).mono ?_
    rintro e w2 ⟨rfl, hb2⟩
    have HB2 := Aside0.mk (below_then HB1.out HB1.out.size hb2)
    have HBr2 := Aside0.mk (HBr.out.later hb2)
    clear hb2
    rcases HO.out with ⟨h1, h2, h3⟩ | ⟨h1, h2, h3⟩
    · obtain ⟨G, hG⟩ := Option.isSome_iff_exists.1 h1
      have hr := run_rune_x
      have HG := Aside0.mk hG
      have HW := Aside0.mk h3
      have HCall := Aside0.mk (bridge_any g _ gb cb _ 120 w2 (HS.out.later HB2.out) HBr2.out)
      rw [h3]
      clear h1 h2 h3 hG HO
      go_wp2_with fail
      refine HCall.out.mono ?_
      rintro e w3 ⟨hb3, h4⟩
      rw [HG.out] at h4
      obtain ⟨A, c, rfl, hR⟩ := h4
      have HB3 := Aside0.mk (below_then HB2.out HB2.out.size hb3)
      have HR := Aside0.mk (Kd.R_lower hR HB2.out.size)
      clear hb3 hR
      go_wp2_with fail
      go_ret3
      refine ⟨HB3.out, ?_⟩
      unfold xoB
      rw [if_pos HE.out]
      exact ⟨G, A, c, by rw [HW.out]; exact HG.out, by rw [HW.out]; rfl, HR.out⟩
    · obtain ⟨G, hG⟩ := Option.isSome_iff_exists.1 h2
      have hr := run_rune_o
      have HG := Aside0.mk hG
      have HW := Aside0.mk h3
      have HCall := Aside0.mk (bridge_any g _ gb cb _ 111 w2 (HS.out.later HB2.out) HBr2.out)
      rw [h3]
      clear h1 h2 h3 hG HO
      go_wp2_with fail
      refine HCall.out.mono ?_
      rintro e w3 ⟨hb3, h4⟩
      rw [HG.out] at h4
      obtain ⟨A, c, rfl, hR⟩ := h4
      have HB3 := Aside0.mk (below_then HB2.out HB2.out.size hb3)
      have HR := Aside0.mk (Kd.R_lower hR HB2.out.size)
      clear hb3 hR
      go_wp2_with fail
      go_ret3
      refine ⟨HB3.out, ?_⟩
      unfold xoB
      rw [if_pos HE.out]
      exact ⟨G, A, c, by rw [HW.out]; exact HG.out, by rw [HW.out]; rfl, HR.out⟩
  · have HE := Aside0.mk hE
    have hne : (boE n s xoB == 0) = false := beq_eq_false_iff_ne.2 hE
    have hne' : (boE n s xoB != 0) = true := bne_iff_ne.2 hE
    unfold xoB at HE hne hne'
    clear hE
    go_enter Tryd.func24, Tryd.ntmps24
    go_wp2_with fail
    refine HBo.out.mono ?_
    rintro e w1 ⟨hb1, h1⟩
    rw [if_neg HE.out] at h1
    subst h1
    have HB1 := Aside0.mk hb1
    clear hb1
    go_wp2_with fail
    go_ret3
    refine ⟨HB1.out, ?_⟩
    unfold xoB
    rw [if_neg HE.out]
    rfl
end Go.Proofs.YtlmgkmmdaecpdaaDoor.Im

namespace Go.Proofs.YtlmgkmmdaecpdaaDoor.Im
open Go.RowKit Go.Proofs.YtlmgkmmdaecpdaaDoorW.PrintWords Go.Proofs.YtlmgkmmdaecpdaaDoorW.PrintLast Go.Proofs.YtlmgkmmdaecpdaaDoorW.PrintMore Go.Proofs.YtlmgkmmdaecpdaaDoor.Mi
set_option linter.unusedVariables false
def cost0 (p c : Int) : Int := if c = p then 0 else if c = 46 then 1 else -1
theorem cost0_le (p c : Int) : cost0 p c ≤ 1 := by unfold cost0; split <;> (try split) <;> omega
abbrev NeedP (n : Nat) (bs : List Int) (p : Int) (d : Nat) : Prop := Need (n * n) (NearN n) (okC bs (cost0 p)) (beP n p) (enP n p) (coC bs (cost0 p)) d
noncomputable def needO (n : Nat) (bs : List Int) (p : Int) : Option Nat := open Classical in if h : ∃ d, NeedP n bs p d then some (Classical.choose h) else none
theorem needO_some {n : Nat} {bs : List Int} {p : Int} {d : Nat} (h : NeedP n bs p d) : needO n bs p = some d := by
  have hex : ∃ d, NeedP n bs p d := ⟨d, h⟩
  unfold needO
  rw [dif_pos hex, (Classical.choose_spec hex).unique h]
theorem needO_none {n : Nat} {bs : List Int} {p : Int} (h : ∀ P, Wy (n * n) (NearN n) (okC bs (cost0 p)) (enP n p) P → ¬ beP n p (headN P)) : needO n bs p = none := by
  unfold needO
  rw [dif_neg]
  rintro ⟨d, hd⟩
  obtain ⟨P, h1, h2, _⟩ := hd.real
  exact h P h1 h2
structure LeastI (n : Nat) (p : Int) (out : Nat → Option Nat) (i : Nat) (b : Option Nat) : Prop where
  no : b = none → ∀ x, x < i → beP n p x → out x = none
  yes : ∀ d, b = some d → (∃ a, a < i ∧ beP n p a ∧ out a = some d) ∧ ∀ x, x < i → beP n p x → ∀ e, out x = some e → d ≤ e
theorem LeastI.start (n : Nat) (p : Int) (out : Nat → Option Nat) : LeastI n p out 0 none := ⟨fun _ x hx => absurd hx (by omega), fun d h => by cases h⟩
theorem LeastI.skip {n : Nat} {p : Int} {out : Nat → Option Nat} {i : Nat} {b : Option Nat} (h : LeastI n p out i b) (hs : beP n p i → ∀ e, out i = some e → ∃ d, b = some d ∧ d ≤ e) : LeastI n p out (i + 1) b where
  no := fun hn x hx hb => by
    rcases Nat.lt_or_ge x i with h1 | h1
    · exact h.no hn x h1 hb
    · obtain rfl : x = i := by omega
      cases ho : out x with
      | none => rfl
      | some e =>
        obtain ⟨d, h2, _⟩ := hs hb e ho
        rw [hn] at h2; cases h2
  yes := fun d hd => by
    obtain ⟨⟨a, h1, h2, h3⟩, h4⟩ := h.yes d hd
    refine ⟨⟨a, by omega, h2, h3⟩, fun x hx hb e he => ?_⟩
    rcases Nat.lt_or_ge x i with h5 | h5
    · exact h4 x h5 hb e he
    · obtain rfl : x = i := by omega
      obtain ⟨d', k1, k2⟩ := hs hb e he
      rw [hd] at k1; cases k1
      exact k2
theorem LeastI.take {n : Nat} {p : Int} {out : Nat → Option Nat} {i d : Nat} {b : Option Nat} (h : LeastI n p out i b) (hb : beP n p i) (hd : out i = some d) (hs : ∀ e, b = some e → d < e) : LeastI n p out (i + 1) (some d) where
  no := fun h => by cases h
  yes := fun d' hd' => by
    cases hd'
    refine ⟨⟨i, by omega, hb, hd⟩, fun x hx hbx e he => ?_⟩
    rcases Nat.lt_or_ge x i with h5 | h5
    · cases hbb : b with
      | none => rw [h.no hbb x h5 hbx] at he; cases he
      | some e' =>
        have := hs e' hbb
        have := (h.yes e' hbb).2 x h5 hbx e he
        omega
    · obtain rfl : x = i := by omega
      rw [hd] at he; cases he
      exact Nat.le_refl _
theorem needs_fin {n : Nat} {bs : List Int} {p : Int} {out : Nat → Option Nat} {b : Option Nat} (hF : FarOf n p bs (cost0 p) out) (h : LeastI n p out (n * n) b) : needO n bs p = b := by
  cases b with
  | none =>
    refine needO_none fun P hP hb => ?_
    have h1 := (hP.mem _ (headN_mem hP.ne)).1
    exact (hF _).2 (h.no rfl _ h1 hb) P hP rfl
  | some d =>
    obtain ⟨⟨a, h1, h2, h3⟩, h4⟩ := h.yes d rfl
    refine needO_some (need_of_least ⟨a, h2, (hF a).1 d h3⟩ fun x e hx he => ?_)
    obtain ⟨P, k1, k2, k3⟩ := he.real
    have hx1 : x < n * n := by rw [← k2]; exact (k1.mem _ (headN_mem k1.ne)).1
    cases ho : out x with
    | none => exact absurd k2 ((hF x).2 ho P k1)
    | some e' =>
      have := h4 x hx1 hx e' ho
      rw [((hF x).1 e' ho).unique he] at this
      exact this
def plB (ps : ByteArray) : Bool := ps.toList == [120] || ps.toList == [111]
theorem needs1_any (gp : Nat) (ps : ByteArray) (p c : Int) (w : World) (hl : 0 < ps.size) (hp0 : bt ps 0 = p) (hp : Blk w gp 9 #[.string ps]) :
    Calls Tryd.prog 47 #[.int .u8 c, .pointer (some ⟨gp, 0, none⟩)] w fun e w' => e = .returned (.int .i64 (cost0 p c)) ∧ Below w.heap.size w w' := by
  have c0 : w.cell? ⟨gp, 0, none⟩ = some (.string ps) := hp.cell 0
  have hb0 : ((ps[0]'hl).toNat : Int) = p := by rw [← hp0]; simp [bt, hl]
  unfold cost0
  by_cases h : c = p
  · have h' : (c == p) = true := beq_iff_eq.2 h
    rw [if_pos h]
    clear h hp0
    go_enter Tryd.func47, Tryd.ntmps47
    go_wp2_with fail
    go_ret
    exact ⟨rfl, Below.refl _ _⟩
  · have h' : (c == p) = false := beq_eq_false_iff_ne.2 h
    rw [if_neg h]
    clear h hp0
    by_cases h2 : c = 46
    · have h2' : (c == 46) = true := beq_iff_eq.2 h2
      rw [if_pos h2]
      clear h2
      go_enter Tryd.func47, Tryd.ntmps47
      go_wp2_with fail
      go_ret
      exact ⟨rfl, Below.refl _ _⟩
    · have h2' : (c == 46) = false := beq_eq_false_iff_ne.2 h2
      rw [if_neg h2]
      clear h2
      go_enter Tryd.func47, Tryd.ntmps47
      go_wp2_with fail
      go_ret
      exact ⟨rfl, Below.refl _ _⟩
theorem cost_needs {gp : Nat} {ps : ByteArray} {p : Int} {w : World} (hl : 0 < ps.size) (hp0 : bt ps 0 = p) (hp : Blk w gp 9 #[.string ps]) : CostC w 47 #[.pointer (some ⟨gp, 0, none⟩)] (cost0 p) :=
  ⟨fun args w => by kernel_rfl, fun c w1 h1 => needs1_any gp ps p c w1 hl hp0 (hp.later h1)⟩
end Go.Proofs.YtlmgkmmdaecpdaaDoor.Im

namespace Go.Proofs.YtlmgkmmdaecpdaaDoor.Im
open Go.RowKit Go.Proofs.YtlmgkmmdaecpdaaDoorW.PrintWords Go.Proofs.YtlmgkmmdaecpdaaDoorW.PrintLast Go.Proofs.YtlmgkmmdaecpdaaDoorW.PrintMore Go.Proofs.YtlmgkmmdaecpdaaDoor.Mi
set_option linter.unusedVariables false
noncomputable def needsR (n : Int) (s ps : ByteArray) : Int × Int :=
  if boE n s xodB = 0 then (if plB ps then (match needO n.toNat (bsOf s) (bt ps 0) with | some d => ((d : Nat), 0) | none => (0, 10)) else (0, 2)) else (0, boE n s xodB)
def NeedsPost (n : Int) (s ps : ByteArray) (w : World) (e : Ending) (w' : World) : Prop := Below w.heap.size w w' ∧ e = .returned (.tuple #[.int .i64 (needsR n s ps).1, .int .i64 (needsR n s ps).2])
theorem ps_of {ps : ByteArray} {l : List UInt8} (h : ps.toList = l) : ps = ⟨l.toArray⟩ := by
  obtain ⟨a⟩ := ps
  rw [ByteArray.toList_mk] at h
  rw [← h]
theorem plB_cases (ps : ByteArray) : (plB ps = true ∧ (ps = ⟨#[120]⟩ ∨ ps = ⟨#[111]⟩)) ∨ (plB ps = false ∧ (ps.toList == [120]) = false ∧ (ps.toList == [111]) = false) := by
  unfold plB
  cases h1 : (ps.toList == [120])
  · cases h2 : (ps.toList == [111])
    · exact .inr ⟨rfl, rfl, rfl⟩
    · exact .inl ⟨rfl, .inr (ps_of (eq_of_beq h2))⟩
  · exact .inl ⟨rfl, .inl (ps_of (eq_of_beq h1))⟩
set_option maxHeartbeats 6400000 in
set_option maxRecDepth 100000 in
theorem needs_good (n : Int) (s ps : ByteArray) (p : Int) (hps : ps = ⟨#[120]⟩ ∧ p = 120 ∨ ps = ⟨#[111]⟩ ∧ p = 111) (hE : boE n s xodB = 0) (w : World) (hst : Steps w) (hs : s.size ≤ 9223372036854775807) :
    Calls Tryd.prog 20 #[.int .i64 n, .string s, .string ps] w (NeedsPost n s ps w) := by
  have hpl : plB ps = true := by rcases hps with ⟨rfl, rfl⟩ | ⟨rfl, rfl⟩ <;> (unfold plB; rw [ByteArray.toList_mk]; rfl)
  have hkey : (ps.toList == [120]) = true ∨ ((ps.toList == [120]) = false ∧ (ps.toList == [111]) = true) := by
    rcases hps with ⟨rfl, rfl⟩ | ⟨rfl, rfl⟩
    · left; rw [ByteArray.toList_mk]; rfl
    · right; rw [ByteArray.toList_mk]; exact ⟨rfl, rfl⟩
  have hp0 : bt ps 0 = p := by rcases hps with ⟨rfl, rfl⟩ | ⟨rfl, rfl⟩ <;> rfl
  have hl : 0 < ps.size := by rcases hps with ⟨rfl, rfl⟩ | ⟨rfl, rfl⟩ <;> decide
  have hb0 : ((ps[0]'hl).toNat : Int) = p := by rw [← hp0]; simp [bt, hl]
  have hR : needsR n s ps = (match needO n.toNat (bsOf s) p with | some d => ((d : Nat), 0) | none => (0, 10)) := by unfold needsR; rw [if_pos hE, hpl, if_pos rfl, hp0]
  have HBo := Aside0.mk (fun w => boarded_any n s xodB w hs (by decide) (by decide))
  have hok := boE_ok hE
  have HS := Aside0.mk hst
  have HE := Aside0.mk hE
  have HRR := Aside0.mk hR
  have HP0 := Aside0.mk hp0
  have HL := Aside0.mk hl
  have l0 : (0 : Int) < (ps.size : Int) := by omega
  unfold xodB at HBo HE
  clear hst hs hE hpl hp0 hR hps
  obtain ⟨m, rfl⟩ : ∃ m : Nat, n = m := ⟨n.toNat, by omega⟩
  rw [Int.toNat_natCast] at *
  obtain ⟨M, hM⟩ : ∃ M, m * m = M := ⟨_, rfl⟩
  have HM := Aside0.mk hM
  have hM1 : 1 ≤ M := by rw [← hM]; exact Nat.mul_pos (by omega) (by omega)
  have hM121 : M ≤ 121 := by rw [← hM]; exact Nat.mul_le_mul (show m ≤ 11 by omega) (show m ≤ 11 by omega)
  clear hM
  rcases hkey with k1 | ⟨k1, k2⟩ <;>
  (go_enter Tryd.func20, Tryd.ntmps20
   go_wp2_with fail
   have hbl : Below w.heap.size w (w.alloc (.cells #[.string ps] 9)) := below_alloc (Below.refl _ _) _
   have HPB := Aside0.mk (Blk.new w 9 #[.string ps])
   refine (HBo.out _).mono ?_
   rintro e w1 ⟨hb1, h1⟩
   rw [if_pos HE.out] at h1
   obtain ⟨g, gb, cb, rfl, hbr, _, _, _⟩ := h1
   rw [Int.toNat_natCast] at hbr
   have HB1 := Aside0.mk (below_then hbl hbl.size hb1)
   have HP1 := Aside0.mk (HPB.out.later hb1)
   have HBr := Aside0.mk hbr
   have hmm1 := hbr.n1
   have hmm11 := hbr.n11
   clear hbl hb1 hbr HPB HBo
   obtain ⟨gp, hgp⟩ : ∃ gp, w.heap.size = gp := ⟨_, rfl⟩
   rw [hgp] at HP1 ⊢
   have cp : w1.cell? ⟨gp, 0, none⟩ = some (.string ps) := HP1.out.cell 0
   have HF := Aside0.mk (far_any g m gb cb (bsOf s) p _ _ _ w1 (HS.out.later HB1.out) HBr.out (cost_needs HL.out HP0.out HP1.out) (cost0_le p))
   go_wp2_with fail
   refine HF.out.mono ?_
   rintro e w2 ⟨out, v, rfl, hR2, hF2, hb2⟩
   have HD := Aside0.mk hF2
   have HB2 := Aside0.mk (below_then HB1.out HB1.out.size hb2)
   have HP2 := Aside0.mk (HP1.out.later hb2)
   have HBr2 := Aside0.mk (HBr.out.later hb2)
   rw [HM.out] at hR2
   have HR2 := Aside0.mk hR2
   clear HF hR2 hF2 hb2 HP1 cp
   obtain ⟨go, co, rfl, hgo, hgl, fc, hfc⟩ := Kd.R_form HR2.out (by rw [rowO_len]; omega)
   rw [rowO_len] at HR2 ⊢
   have HFB := Aside0.mk (show Blk w2 go 3 fc from hfc)
   have HFC : Aside0 (∀ x, x < M → fc[x]? = some (.int .i64 (oi (out x)))) := ⟨fun x hx => by
     obtain ⟨hx1, _⟩ := Kd.R_celln 0 HR2.out (x : Int) (Int.natCast_nonneg x) (Int.ofNat_lt.2 hx)
     rw [Int.toNat_natCast, HFB.out.cell x] at hx1
     rw [← rowO_get out hx]; exact hx1⟩
   clear hgl hfc hgo HR2
   go_wp2_with fail
   go_loopw [11, 40] (fun v11 v40 wr => ∃ (i : Nat) (b : Option Nat), i ≤ M ∧ v40 = .int .i64 (i : Int) ∧ v11 = .int .i64 (oi b) ∧ Aside0 (LeastI m p out i b) ∧ Aside0 (Below w2.heap.size w2 wr)) (fun _ v _ => M - (intOf v).toNat)
   case atStart => exact ⟨0, none, Nat.zero_le _, rfl, rfl, ⟨LeastI.start m p out⟩, ⟨Below.refl _ _⟩⟩
   case round =>
     obtain ⟨i, b, hi, rfl, rfl, HSc, HBq⟩ := hrel
     have cp : wr.cell? ⟨gp, 0, none⟩ = some (.string ps) := (HP2.out.later HBq.out).cell 0
     by_cases him : i < M
     · have ci : wr.cell? ⟨go, i, none⟩ = some (.int .i64 (oi (out i))) := by rw [(HFB.out.later HBq.out).cell i, HFC.out i him]
       have i0 : (0 : Int) ≤ (i : Int) := Int.natCast_nonneg i
       have i1 : (i : Int) < (M : Int) := Int.ofNat_lt.2 him
       have HE2 := Aside0.mk (ends_any g m i _ p wr hmm1 hmm11 (by rw [HM.out]; exact him) (HBr2.out.later HBq.out).hd)
       obtain ⟨lb, hlb⟩ : ∃ lb : Bool, decide (endK m i p = m - 1) = lb := ⟨_, rfl⟩
       rw [hlb] at HE2
       clear hlb
       go_wp2_with fail
       refine HE2.out.mono ?_
       rintro e w3 ⟨rfl, hb3⟩
       have HB3 := Aside0.mk (below_then HBq.out HBq.out.size hb3)
       clear hb3 HE2 ci cp
       by_cases hbe : beP m p i
       · have hd1 : decide (endK m i p = 0) = true := decide_eq_true hbe
         rw [hd1]
         clear hd1
         cases ho : out i with
         | none =>
           have HS2 := Aside0.mk (HSc.out.skip (fun _ e he => by rw [ho] at he; cases he))
           have e : oi none = -1 := rfl
           rw [e]
           clear ho
           generalize hat : oi b = va at *
           have HAT := Aside0.mk hat
           clear hat
           go_wp2_with fail
           go_roundw
           case rel => exact ⟨i + 1, b, him, by go_num, by rw [HAT.out], HS2, HB3⟩
           case measure => simp [intOf]; omega
         | some d =>
           have e : oi (some d) = (d : Int) := rfl
           rw [e]
           cases b with
           | none =>
             have HS2 := Aside0.mk (HSc.out.take hbe ho (fun e h => by cases h))
             have e : oi none = -1 := rfl
             rw [e]
             clear ho hbe
             go_wp2_with fail
             go_roundw
             case rel => exact ⟨i + 1, some d, him, by go_num, rfl, HS2, HB3⟩
             case measure => simp [intOf]; omega
           | some da =>
             have e : oi (some da) = (da : Int) := rfl
             rw [e]
             by_cases hlt : d < da
             · have HS2 := Aside0.mk (HSc.out.take hbe ho (fun e h => by cases h; exact hlt))
               have t1 : decide (d < da) = true := decide_eq_true hlt
               have t2 : decide ((d : Int) < (da : Int)) = true := decide_eq_true (Int.ofNat_lt.2 hlt)
               clear ho hbe hlt
               go_wp2_with fail
               go_roundw
               case rel => exact ⟨i + 1, some d, him, by go_num, rfl, HS2, HB3⟩
               case measure => simp [intOf]; omega
             · have HS2 := Aside0.mk (HSc.out.skip (fun _ e he => by rw [ho] at he; cases he; exact ⟨da, rfl, by omega⟩))
               have t1 : decide (d < da) = false := decide_eq_false hlt
               have t2 : decide ((d : Int) < (da : Int)) = false := decide_eq_false (fun h => hlt (Int.ofNat_lt.1 h))
               clear ho hbe hlt
               go_wp2_with fail
               go_roundw
               case rel => exact ⟨i + 1, some da, him, by go_num, rfl, HS2, HB3⟩
               case measure => simp [intOf]; omega
       · have hd1 : decide (endK m i p = 0) = false := decide_eq_false hbe
         rw [hd1]
         clear hd1
         have HS2 := Aside0.mk (HSc.out.skip (fun h => absurd h hbe))
         generalize hat : oi b = va at *
         have HAT := Aside0.mk hat
         clear hat hbe
         generalize oi (out i) = vo at *
         go_wp2_with fail
         go_roundw
         case rel => exact ⟨i + 1, b, him, by go_num, by rw [HAT.out], HS2, HB3⟩
         case measure => simp [intOf]; omega
     · obtain rfl : i = M := by omega
       have hfin := needs_fin HD.out (show LeastI m p out (m * m) b by rw [HM.out]; exact HSc.out)
       have HBw := Aside0.mk (below_then HB2.out HB2.out.size HBq.out)
       cases b with
       | none =>
         have hr : needsR m s ps = (0, 10) := by rw [HRR.out, hfin]
         have HR := Aside0.mk hr
         have e : oi none = -1 := rfl
         rw [e]
         clear hr hfin cp
         go_wp2_with fail
         go_ret2
         exact ⟨HBw.out, by rw [HR.out]; rfl⟩
       | some d =>
         have hr : needsR m s ps = (((d : Nat) : Int), (0 : Int)) := by rw [HRR.out, hfin]
         have HR := Aside0.mk hr
         have e : oi (some d) = (d : Int) := rfl
         rw [e]
         have z0 : ¬ (d : Int) < 0 := Int.not_lt.2 (Int.natCast_nonneg d)
         clear hr hfin cp
         go_wp2_with fail
         go_ret2
         exact ⟨HBw.out, by rw [HR.out]; rfl⟩)
theorem needs_bad (n : Int) (s ps : ByteArray) (hE : boE n s xodB ≠ 0) (w : World) (hs : s.size ≤ 9223372036854775807) :
    Calls Tryd.prog 20 #[.int .i64 n, .string s, .string ps] w (NeedsPost n s ps w) := by
  have HBo := Aside0.mk (fun w => boarded_any n s xodB w hs (by decide) (by decide))
  have hR : needsR n s ps = (0, boE n s xodB) := by unfold needsR; rw [if_neg hE]
  have hne : (boE n s xodB == 0) = false := beq_eq_false_iff_ne.2 hE
  have hne' : (boE n s xodB != 0) = true := bne_iff_ne.2 hE
  have HE := Aside0.mk hE
  have HR := Aside0.mk hR
  unfold xodB at HBo HE HR hne hne'
  clear hE hR
  go_enter Tryd.func20, Tryd.ntmps20
  go_wp2_with fail
  have hbl : Below w.heap.size w (w.alloc (.cells #[.string ps] 9)) := below_alloc (Below.refl _ _) _
  refine (HBo.out _).mono ?_
  rintro e w1 ⟨hb1, h1⟩
  rw [if_neg HE.out] at h1
  subst h1
  have HB1 := Aside0.mk (below_then hbl hbl.size hb1)
  clear hb1 hbl
  go_wp2_with fail
  go_ret2
  exact ⟨HB1.out, by rw [HR.out]; rfl⟩
theorem needs_not (n : Int) (s ps : ByteArray) (hp : plB ps = false) (k1 : (ps.toList == [120]) = false) (k2 : (ps.toList == [111]) = false) (hE : boE n s xodB = 0) (w : World) (hs : s.size ≤ 9223372036854775807) :
    Calls Tryd.prog 20 #[.int .i64 n, .string s, .string ps] w (NeedsPost n s ps w) := by
  have HBo := Aside0.mk (fun w => boarded_any n s xodB w hs (by decide) (by decide))
  have hR : needsR n s ps = (0, 2) := by unfold needsR; rw [if_pos hE, hp]; rfl
  have HE := Aside0.mk hE
  have HR := Aside0.mk hR
  unfold xodB at HBo HE
  clear hE hR hp
  go_enter Tryd.func20, Tryd.ntmps20
  go_wp2_with fail
  have hbl : Below w.heap.size w (w.alloc (.cells #[.string ps] 9)) := below_alloc (Below.refl _ _) _
  have HPB := Aside0.mk (Blk.new w 9 #[.string ps])
  refine (HBo.out _).mono ?_
  rintro e w1 ⟨hb1, h1⟩
  rw [if_pos HE.out] at h1
  obtain ⟨g, gb, cb, rfl, _, _, _, _⟩ := h1
  have HB1 := Aside0.mk (below_then hbl hbl.size hb1)
  have cp : w1.cell? ⟨w.heap.size, 0, none⟩ = some (.string ps) := (HPB.out.later hb1).cell 0
  clear hb1 hbl HPB
  obtain ⟨gp, hgp⟩ : ∃ gp, w.heap.size = gp := ⟨_, rfl⟩
  rw [hgp] at cp ⊢
  go_wp2_with fail
  go_ret2
  exact ⟨HB1.out, by rw [HR.out]; rfl⟩
theorem needs_call (n : Int) (s ps : ByteArray) (w : World) (hst : Steps w) (hs : s.size ≤ 9223372036854775807) :
    Calls Tryd.prog 20 #[.int .i64 n, .string s, .string ps] w (NeedsPost n s ps w) := by
  by_cases hE : boE n s xodB = 0
  · rcases plB_cases ps with ⟨h1, h2⟩ | ⟨h1, h2, h3⟩
    · rcases h2 with h2 | h2
      · exact needs_good n s ps 120 (.inl ⟨h2, rfl⟩) hE w hst hs
      · exact needs_good n s ps 111 (.inr ⟨h2, rfl⟩) hE w hst hs
    · exact needs_not n s ps h1 h2 h3 hE w hs
  · exact needs_bad n s ps hE w hs
end Go.Proofs.YtlmgkmmdaecpdaaDoor.Im

namespace Go.Proofs.YtlmgkmmdaecpdaaDoor.Im
open Go.RowKit Go.Proofs.YtlmgkmmdaecpdaaDoorW.PrintWords Go.Proofs.YtlmgkmmdaecpdaaDoorW.PrintLast Go.Proofs.YtlmgkmmdaecpdaaDoorW.PrintMore Go.Proofs.YtlmgkmmdaecpdaaDoor.Mi
set_option linter.unusedVariables false
def Gives {α : Type} (f : Nat → Option α) (r : α) : Prop := ∃ k0, ∀ k, k0 ≤ k → f k = some r
theorem Gives.now {α : Type} {g : Nat → Option α} {r : α} (h : ∀ k, g (k + 1) = some r) : Gives g r :=
  ⟨1, fun k hk => by obtain ⟨m, rfl⟩ : ∃ m, k = m + 1 := ⟨k - 1, by omega⟩; exact h m⟩
theorem Gives.all {α : Type} {g : Nat → Option α} {r : α} (h : ∀ k, g k = some r) : Gives g r := ⟨0, fun k _ => h k⟩
theorem Gives.step {α β : Type} {f : Nat → Option α} {r : α} {g : Nat → Option β} {s : β} (h : Gives f r) (hs : ∀ k, f k = some r → g (k + 1) = some s) : Gives g s := by
  obtain ⟨k0, h⟩ := h
  exact ⟨k0 + 1, fun k hk => by obtain ⟨m, rfl⟩ : ∃ m, k = m + 1 := ⟨k - 1, by omega⟩; exact hs m (h m (by omega))⟩
theorem Gives.map {α β : Type} {f : Nat → Option α} {r : α} {g : Nat → Option β} {s : β} (h : Gives f r) (hs : ∀ k, f k = some r → g k = some s) : Gives g s := by
  obtain ⟨k0, h⟩ := h
  exact ⟨k0, fun k hk => hs k (h k hk)⟩
theorem rd_get {xs : List Int} {i : Nat} (h : i < xs.length) : rd xs (i : Int) = xs[i] := by
  show xs.getD ((i : Nat) : Int).toNat 0 = _
  rw [Int.toNat_natCast, List.getD, List.getElem?_eq_getElem h]
  rfl
theorem same_l0 (xs ys : List Int) (hx : xs.length < 1000000) (he : xs.length = ys.length) : ∀ (d i : Nat), i + d = xs.length → Gives (fun k => pomadelaw04_same.l0 k xs ys i) (decide (xs.drop i = ys.drop i))
  | 0, i, h => Gives.now fun k => by
    simp only [pomadelaw04_same.l0]
    rw [if_neg (by omega), List.drop_of_length_le (by omega), List.drop_of_length_le (by omega)]
    rfl
  | d + 1, i, h => by
    have e1 : xs.drop i = xs[i]'(by omega) :: xs.drop (i + 1) := (List.drop_eq_getElem_cons (by omega))
    have e2 : ys.drop i = ys[i]'(by omega) :: ys.drop (i + 1) := (List.drop_eq_getElem_cons (by omega))
    by_cases hq : xs[i]'(by omega) = ys[i]'(by omega)
    · have e3 : xs.drop (i + 1) = ys.drop (i + 1) ↔ xs.drop i = ys.drop i := ⟨fun h => by rw [e1, e2, hq, h], fun h => by rw [e1, e2] at h; exact (List.cons.inj h).2⟩
      exact (same_l0 xs ys hx he d (i + 1) (by omega)).step fun k hk => by
        simp only [pomadelaw04_same.l0]
        rw [if_pos (by omega), if_pos (by omega), if_pos (by omega), rd_get (by omega), rd_get (by omega), if_pos hq, wr_succ i (by omega), hk, decide_eq_decide.2 e3]
    · have e3 : ¬ xs.drop i = ys.drop i := fun h => by rw [e1, e2] at h; exact hq (List.cons.inj h).1
      exact Gives.now fun k => by
        simp only [pomadelaw04_same.l0]
        rw [if_pos (by omega), if_pos (by omega), if_pos (by omega), rd_get (by omega), rd_get (by omega), if_neg hq, decide_eq_false e3]
theorem same_g (xs ys : List Int) (hx : xs.length < 1000000) : Gives (fun k => pomadelaw04_same.f k xs ys) (decide (xs = ys)) := by
  by_cases he : xs.length = ys.length
  · exact (same_l0 xs ys hx he xs.length 0 (by omega)).map fun k hk => by
      simp only [pomadelaw04_same.f]
      rw [if_pos (by omega)]; exact hk
  · exact Gives.all fun k => by
      simp only [pomadelaw04_same.f]
      rw [if_neg (by omega), decide_eq_false (fun e => he (by rw [e]))]
theorem same_any (xs ys : List Int) (A B : Option Addr) (c d : Nat) (w : World) (hx : xs.length < 1000000) (hA : Kd.C (Kd.int .i64) w A xs.length xs) (hc : xs.length ≤ c) (hB : Kd.C (Kd.int .i64) w B ys.length ys) (hd : ys.length ≤ d) :
    Calls Tryd.prog 33 #[.slice A xs.length c, .slice B ys.length d] w fun e w' => e = .returned (.bool (decide (xs = ys))) ∧ Below w.heap.size w w' := by
  obtain ⟨k0, hk0⟩ := same_g xs ys hx
  exact (pomadelaw04_same.calls k0 A c xs B d ys _ w hA hc hB hd (hk0 k0 (Nat.le_refl _))).mono fun e w' ⟨h1, h2⟩ => ⟨h1, h2.below⟩
theorem C_i2 (w : World) (i j : Int) : Kd.C (Kd.int .i64) (w.alloc (.cells #[.int .i64 i, .int .i64 j] 3)) (some ⟨w.heap.size, 0, none⟩) 2 [i, j] := by
  have h1 : (w.alloc (.cells #[.int .i64 i, .int .i64 j] 3)).ownsRow w.heap.size 3 1 (.slice (some ⟨w.heap.size, 0, none⟩) 2 2) [i, j].length (encs (Value.int .i64) [i, j]) :=
    ⟨rfl, .inr ⟨w.heap.size, 2, #[.int .i64 i, .int .i64 j], rfl, Nat.le_refl _, Blk.new w 3 _, by simp, by decide, rfl, rfl⟩⟩
  have h2 : Kd.R (Kd.int .i64) 3 (w.alloc (.cells #[.int .i64 i, .int .i64 j] 3)) w.heap.size (fun _ => True) (.slice (some ⟨w.heap.size, 0, none⟩) 2 2) [i, j] := Kd.R_of_own h1 (fun _ _ => trivial)
  obtain ⟨A, c, e, _, hC⟩ := Kd.R_reads h2
  injection e with e1
  rw [← e1] at hC
  exact hC
theorem C_i3 (w : World) (i j l : Int) : Kd.C (Kd.int .i64) (w.alloc (.cells #[.int .i64 i, .int .i64 j, .int .i64 l] 3)) (some ⟨w.heap.size, 0, none⟩) 3 [i, j, l] := by
  have h1 : (w.alloc (.cells #[.int .i64 i, .int .i64 j, .int .i64 l] 3)).ownsRow w.heap.size 3 1 (.slice (some ⟨w.heap.size, 0, none⟩) 3 3) [i, j, l].length (encs (Value.int .i64) [i, j, l]) :=
    ⟨rfl, .inr ⟨w.heap.size, 3, #[.int .i64 i, .int .i64 j, .int .i64 l], rfl, Nat.le_refl _, Blk.new w 3 _, by simp, by decide, rfl, rfl⟩⟩
  have h2 : Kd.R (Kd.int .i64) 3 (w.alloc (.cells #[.int .i64 i, .int .i64 j, .int .i64 l] 3)) w.heap.size (fun _ => True) (.slice (some ⟨w.heap.size, 0, none⟩) 3 3) [i, j, l] := Kd.R_of_own h1 (fun _ _ => trivial)
  obtain ⟨A, c, e, _, hC⟩ := Kd.R_reads h2
  injection e with e1
  rw [← e1] at hC
  exact hC
end Go.Proofs.YtlmgkmmdaecpdaaDoor.Im

namespace Go.Proofs.YtlmgkmmdaecpdaaDoor.Im
open Go.RowKit Go.Proofs.YtlmgkmmdaecpdaaDoorW.PrintWords Go.Proofs.YtlmgkmmdaecpdaaDoorW.PrintLast Go.Proofs.YtlmgkmmdaecpdaaDoorW.PrintMore Go.Proofs.YtlmgkmmdaecpdaaDoor.Mi
set_option linter.unusedVariables false
theorem bt_bs (s : ByteArray) (i : Nat) : bt s i = (bsOf s).getD i 0 := by
  unfold bt bsOf
  rw [List.getD, List.getElem?_map]
  by_cases h : i < s.size
  · have h' : ((i : Nat) : Int).toNat < s.size := by rw [Int.toNat_natCast]; exact h
    rw [dif_pos h']
    have e : s.data.toList[i]? = some (s[i]'h) := by
      rw [Array.getElem?_toList, Array.getElem?_eq_getElem h]
      rfl
    rw [e]
    simp
  · rw [dif_neg (by rw [Int.toNat_natCast]; exact h), List.getElem?_eq_none (by rw [Array.length_toList]; exact Nat.not_lt.1 h)]
    rfl
end Go.Proofs.YtlmgkmmdaecpdaaDoor.Im

namespace Go.Proofs.YtlmgkmmdaecpdaaDoor.Im
open Go.RowKit Go.Proofs.YtlmgkmmdaecpdaaDoorW.PrintWords Go.Proofs.YtlmgkmmdaecpdaaDoorW.PrintLast Go.Proofs.YtlmgkmmdaecpdaaDoorW.PrintMore
attribute [local go_sem] max2_int min2_int max_two min_two max_three min_three max_four min_four
set_option linter.unusedVariables false
set_option linter.unusedSimpArgs false
def pomaderef04_Points.f (a0 : Int) : Option (Int) := some (wrap64 (Int.tdiv (wrap64 ((wrap64 (a0 + 1)) * (wrap64 (a0 + 2)))) 2))
set_option maxHeartbeats 8000000 in
set_option maxRecDepth 100000 in
theorem pomaderef04_Points.calls (a0 : Int) (r : Int) (w : World) (h : pomaderef04_Points.f a0 = some r) :
    Calls Tryd.prog 62 #[.int .i64 a0] w fun e w' => e = .returned (.int .i64 r) ∧ Drawn0 w w' := by
  have H : (some (wrap64 (Int.tdiv (wrap64 ((wrap64 (a0 + 1)) * (wrap64 (a0 + 2)))) 2))) = some r := h
  clear h
  obtain rfl := Option.some.inj H
  go_enter Tryd.func62, Tryd.ntmps62
  go_wp2
  go_ret
  exact ⟨by first | rfl | (simp; done) | (simp [*]; done), by repeat (first | exact Drawn0.refl _ | apply Drawn0.step)⟩
mutual
def pomaderef04_Triangle.j0 : Nat → Int → ByteArray → Bool → Option (Int)
  | 0, _, _, _ => none
  | k + 1, x0, x1, x11 => if x11 = true then (some 2) else ((pomaderef04_Points.f x0).bind fun t234 => (if (x1.size : Int) = t234 then (pomaderef04_Triangle.l0 k x1 0) else (some 5)))
def pomaderef04_Triangle.l0 : Nat → ByteArray → Int → Option (Int)
  | 0, _, _ => none
  | k + 1, x1, x5 => if x5 < (x1.size : Int) then (if 0 ≤ x5 then (if (bt x1 x5) < 48 then (some 5) else (if (bt x1 x5) > 50 then (some 5) else (pomaderef04_Triangle.l0 k x1 (wrap64 (x5 + 1))))) else (none)) else (some 0)
end
def pomaderef04_Triangle.f (k : Nat) (a0 : Int) (a1 : ByteArray) : Option (Int) := if a0 < 1 then (pomaderef04_Triangle.j0 k a0 a1 true) else (pomaderef04_Triangle.j0 k a0 a1 (decide (a0 > 20)))
theorem pomaderef04_Triangle.mono_l : ∀ k, (∀ y0 y1 y2, LeO (pomaderef04_Triangle.j0 k y0 y1 y2) (pomaderef04_Triangle.j0 (k + 1) y0 y1 y2)) ∧ (∀ y0 y1, LeO (pomaderef04_Triangle.l0 k y0 y1) (pomaderef04_Triangle.l0 (k + 1) y0 y1))
  | 0 => ⟨fun _ _ _ r h => by simp [pomaderef04_Triangle.j0] at h, fun _ _ r h => by simp [pomaderef04_Triangle.l0] at h⟩
  | k + 1 => by
    obtain ⟨ih0, ih1⟩ := pomaderef04_Triangle.mono_l k
    refine ⟨?_, ?_⟩
    · intro y0 y1 y2
      unfold pomaderef04_Triangle.j0
      repeat' first
      | (with_reducible exact ih0 _ _ _)
      | (with_reducible exact ih1 _ _)
      | (with_reducible exact LeO.refl _)
      | (with_reducible exact LeO.none _)
      | (with_reducible refine LeO.ite ?_ ?_)
      | (with_reducible refine LeO.bind ?_ (fun _ => ?_))
      | exact ih0 _ _ _
      | exact ih1 _ _
      | exact LeO.none _
      | refine LeO.ite ?_ ?_
      | refine LeO.bind ?_ (fun _ => ?_)
    · intro y0 y1
      unfold pomaderef04_Triangle.l0
      repeat' first
      | (with_reducible exact ih0 _ _ _)
      | (with_reducible exact ih1 _ _)
      | (with_reducible exact LeO.refl _)
      | (with_reducible exact LeO.none _)
      | (with_reducible refine LeO.ite ?_ ?_)
      | (with_reducible refine LeO.bind ?_ (fun _ => ?_))
      | exact ih0 _ _ _
      | exact ih1 _ _
      | exact LeO.none _
      | refine LeO.ite ?_ ?_
      | refine LeO.bind ?_ (fun _ => ?_)
theorem pomaderef04_Triangle.mono : ∀ a0 a1 k, LeO (pomaderef04_Triangle.f k a0 a1) (pomaderef04_Triangle.f (k + 1) a0 a1) := by
  intro a0 a1 k
  obtain ⟨ih0, ih1⟩ := pomaderef04_Triangle.mono_l k
  unfold pomaderef04_Triangle.f
  repeat' first
      | (with_reducible exact ih0 _ _ _)
      | (with_reducible exact ih1 _ _)
      | (with_reducible exact LeO.refl _)
      | (with_reducible exact LeO.none _)
      | (with_reducible refine LeO.ite ?_ ?_)
      | (with_reducible refine LeO.bind ?_ (fun _ => ?_))
      | exact ih0 _ _ _
      | exact ih1 _ _
      | exact LeO.none _
      | refine LeO.ite ?_ ?_
      | refine LeO.bind ?_ (fun _ => ?_)
set_option maxHeartbeats 8000000 in
set_option maxRecDepth 100000 in
theorem pomaderef04_Triangle.calls (k : Nat) (a0 : Int) (a1 : ByteArray) (r : Int) (w : World) (h : pomaderef04_Triangle.f k a0 a1 = some r) :
    Calls Tryd.prog 30 #[.int .i64 a0, .string a1] w fun e w' => e = .returned (.int .i64 r) ∧ Drawn0 w w' := by
  have H : (if a0 < 1 then (pomaderef04_Triangle.j0 k a0 a1 true) else (pomaderef04_Triangle.j0 k a0 a1 (decide (a0 > 20)))) = some r := h
  clear h
  have HC3 := Aside0.mk H
  clear H
  go_enter Tryd.func30, Tryd.ntmps30
  go_upto_region 1 with (fail)
  go_cut [11] (fun v11 wc => ∃ (kq : Nat) (x11_2 : Bool), v11 = .bool x11_2 ∧ Aside0 (pomaderef04_Triangle.j0 kq a0 a1 x11_2 = some r) ∧ Aside0 (kq ≤ k) ∧ Drawn0 w wc)
  case first =>
    have H := HC3.out
    clear HC3
    by_cases c4 : a0 < 1
    · rw [if_pos c4] at H
      have c4b0 : decide (a0 < 1) = true := decide_eq_true c4
      clear c4
      (first | rw [c4b0] | (simp only [i64_w, i32_w]; rw [c4b0]) | skip)
      have H' := Aside0.mk H
      clear H
      go_wp2
      go_meet
      case rel => exact ⟨_, (true), (by first | rfl | (simp; done) | (simp [*]; done)), H', ⟨by first | omega | exact Nat.le_refl _⟩, by repeat (first | exact Drawn0.refl _ | apply Drawn0.step)⟩
    · rw [if_neg c4] at H
      have c4b0 : decide (a0 < 1) = false := decide_eq_false c4
      clear c4
      (first | rw [c4b0] | (simp only [i64_w, i32_w]; rw [c4b0]) | skip)
      have H' := Aside0.mk H
      clear H
      go_wp2
      go_meet
      case rel => exact ⟨_, (decide (a0 > 20)), (by first | rfl | (simp; done) | (simp [*]; done)), H', ⟨by first | omega | exact Nat.le_refl _⟩, by repeat (first | exact Drawn0.refl _ | apply Drawn0.step)⟩
  case rest =>
    clear HC3
    try clear p2
    try clear c3
    try clear c4
    try clear c4b0
    obtain ⟨kq, x11_2, rfl, HA, HJ2, ⟨mc2, rfl⟩⟩ := hcut
    cases kq with
    | zero => exact absurd HA.out (by simp [pomaderef04_Triangle.j0])
    | succ kj2 =>
      have H := HA.out
      clear HA
      simp only [pomaderef04_Triangle.j0] at H
      by_cases c5 : x11_2 = true
      · subst c5
        have H1 : (some 2) = some r := by rw [if_pos rfl] at H; exact H
        clear H
        have H := H1
        clear H1
        obtain rfl := Option.some.inj H
        go_wp2
        go_ret
        exact ⟨by first | rfl | (simp; done) | (simp [*]; done), by repeat (first | exact Drawn0.refl _ | apply Drawn0.step)⟩
      · replace c5 := Bool.eq_false_iff.mpr c5
        subst c5
        have H1 : ((pomaderef04_Points.f a0).bind fun t234 => (if (a1.size : Int) = t234 then (pomaderef04_Triangle.l0 kj2 a1 0) else (some 5))) = some r := by rw [if_neg (show ¬ (false = true) by decide)] at H; exact H
        clear H
        have H := H1
        clear H1
        replace H := Option.bind_eq_some_iff.mp H
        obtain ⟨t234, A60, H⟩ := H
        replace H : (if (a1.size : Int) = t234 then (pomaderef04_Triangle.l0 kj2 a1 0) else (some 5)) = some r := H
        have A6 := Aside0.mk A60
        clear A60
        by_cases c7 : (a1.size : Int) = t234
        · rw [if_pos c7] at H
          have c7b0 : ((a1.size : Int) == t234) = true := beq_iff_eq.mpr c7
          have c7b1 : ((a1.size : Int) != t234) = false := bne_eq_false_iff_eq.mpr c7
          clear c7
          have H' := Aside0.mk H
          clear H
          go_wp2_with (first | ((with_reducible refine gate_callee (f := 62) rfl ?_); refine goesL_ (some 15) rfl rfl Tryd.func62 (by kernel_rfl) rfl #[.int .i64 a0] rfl (by (try simp only [List.map_toArray, List.map_cons, List.map_nil]); first | done | rfl | (simp only [List.length_drop, List.length_take]; rfl)) ?_; (with_reducible refine (pomaderef04_Points.calls a0 t234 _ A6.out).mono ?_); rintro e w' ⟨rfl, ⟨nd, rfl⟩⟩; refine ⟨_, rfl, ?_⟩))
          go_loopg [5] kj2 (fun kq v5 w' => ∃ (x5_2 : Int), v5 = .int .i64 x5_2 ∧ Aside0 (pomaderef04_Triangle.l0 kq a1 x5_2 = some r) ∧ Aside0 (kq ≤ kj2) ∧ Drawn0 w w')
          case atStart => exact ⟨(0), (by first | rfl | (simp; done) | (simp [*]; done)), H', ⟨Nat.le_refl _⟩, by repeat (first | exact Drawn0.refl _ | apply Drawn0.step)⟩
          case round =>
            clear H'
            try clear c2
            try clear p2
            try clear c3
            try clear c4
            try clear c4b0
            try clear c5
            try clear c6
            try clear c7
            try clear c7b0
            try clear c7b1
            try clear p2
            obtain ⟨x5_2, rfl, HA, HK2, ⟨m2, rfl⟩⟩ := hrel
            cases gk with
            | zero => exact absurd HA.out (by simp [pomaderef04_Triangle.l0])
            | succ k2 =>
              have H := HA.out
              clear HA
              simp only [pomaderef04_Triangle.l0] at H
              by_cases c8 : x5_2 < (a1.size : Int)
              · rw [if_pos c8] at H
                have c8b0 : decide (x5_2 < (a1.size : Int)) = true := decide_eq_true c8
                clear c8
                by_cases c9 : 0 ≤ x5_2
                · rw [if_pos c9] at H
                  have c9b0 : decide (0 ≤ x5_2) = true := decide_eq_true c9
                  clear c9
                  by_cases c11 : (bt a1 x5_2) < 48
                  · rw [if_pos c11] at H
                    have c11b0 : decide ((bt a1 x5_2) < 48) = true := decide_eq_true c11
                    clear c11
                    obtain rfl := Option.some.inj H
                    have p10 : 0 ≤ (x5_2 : Int) := of_decide_eq_true (by first | (with_reducible assumption) | assumption)
                    have q10 : x5_2 < (a1.size : Int) := of_decide_eq_true (by first | (with_reducible assumption) | assumption)
                    have hx10 := bt_at a1 x5_2
                    replace p10 := eq_true p10
                    replace q10 := eq_true q10
                    go_wp2
                    go_ret
                    exact ⟨by first | rfl | (simp; done) | (simp [*]; done), by repeat (first | exact Drawn0.refl _ | apply Drawn0.step)⟩
                  · rw [if_neg c11] at H
                    have c11b0 : decide ((bt a1 x5_2) < 48) = false := decide_eq_false c11
                    clear c11
                    by_cases c13 : (bt a1 x5_2) > 50
                    · rw [if_pos c13] at H
                      have c13b0 : decide (50 < (bt a1 x5_2)) = true := decide_eq_true c13
                      clear c13
                      obtain rfl := Option.some.inj H
                      have p10 : 0 ≤ (x5_2 : Int) := of_decide_eq_true (by first | (with_reducible assumption) | assumption)
                      have q10 : x5_2 < (a1.size : Int) := of_decide_eq_true (by first | (with_reducible assumption) | assumption)
                      have hx10 := bt_at a1 x5_2
                      replace p10 := eq_true p10
                      replace q10 := eq_true q10
                      have p12 : 0 ≤ (x5_2 : Int) := of_decide_eq_true (by first | (with_reducible assumption) | assumption)
                      have q12 : x5_2 < (a1.size : Int) := of_decide_eq_true (by first | (with_reducible assumption) | assumption)
                      have hx12 := bt_at a1 x5_2
                      replace p12 := eq_true p12
                      replace q12 := eq_true q12
                      go_wp2
                      go_ret
                      exact ⟨by first | rfl | (simp; done) | (simp [*]; done), by repeat (first | exact Drawn0.refl _ | apply Drawn0.step)⟩
                    · rw [if_neg c13] at H
                      have c13b0 : decide (50 < (bt a1 x5_2)) = false := decide_eq_false c13
                      clear c13
                      have H' := Aside0.mk H
                      clear H
                      have p10 : 0 ≤ (x5_2 : Int) := of_decide_eq_true (by first | (with_reducible assumption) | assumption)
                      have q10 : x5_2 < (a1.size : Int) := of_decide_eq_true (by first | (with_reducible assumption) | assumption)
                      have hx10 := bt_at a1 x5_2
                      replace p10 := eq_true p10
                      replace q10 := eq_true q10
                      have p12 : 0 ≤ (x5_2 : Int) := of_decide_eq_true (by first | (with_reducible assumption) | assumption)
                      have q12 : x5_2 < (a1.size : Int) := of_decide_eq_true (by first | (with_reducible assumption) | assumption)
                      have hx12 := bt_at a1 x5_2
                      replace p12 := eq_true p12
                      replace q12 := eq_true q12
                      go_wp2
                      go_roundg k2
                      case measure => have := HJ2.out; have := HK2.out; omega
                      case rel => exact ⟨(wrap64 (x5_2 + 1)), (by first | rfl | (simp; done) | (simp [*]; done)), H', ⟨by have := HJ2.out; have := HK2.out; omega⟩, by repeat (first | exact Drawn0.refl _ | apply Drawn0.step)⟩
                · rw [if_neg c9] at H
                  exact absurd H (by simp)
              · rw [if_neg c8] at H
                have c8b0 : decide (x5_2 < (a1.size : Int)) = false := decide_eq_false c8
                clear c8
                obtain rfl := Option.some.inj H
                go_wp2
                go_ret
                exact ⟨by first | rfl | (simp; done) | (simp [*]; done), by repeat (first | exact Drawn0.refl _ | apply Drawn0.step)⟩
        · rw [if_neg c7] at H
          have c7b0 : ((a1.size : Int) == t234) = false := beq_eq_false_iff_ne.mpr c7
          have c7b1 : ((a1.size : Int) != t234) = true := bne_iff_ne.mpr c7
          obtain rfl := Option.some.inj H
          go_wp2_with (first | ((with_reducible refine gate_callee (f := 62) rfl ?_); refine goesL_ (some 15) rfl rfl Tryd.func62 (by kernel_rfl) rfl #[.int .i64 a0] rfl (by (try simp only [List.map_toArray, List.map_cons, List.map_nil]); first | done | rfl | (simp only [List.length_drop, List.length_take]; rfl)) ?_; (with_reducible refine (pomaderef04_Points.calls a0 t234 _ A6.out).mono ?_); rintro e w' ⟨rfl, ⟨nd, rfl⟩⟩; refine ⟨_, rfl, ?_⟩))
          go_ret
          exact ⟨by first | rfl | (simp; done) | (simp [*]; done), by repeat (first | exact Drawn0.refl _ | apply Drawn0.step)⟩
def pomaderef04_colour.l0 : Nat → Int → ByteArray → Int → Int → Int → Int → Option (Int)
  | 0, _, _, _, _, _, _ => none
  | k + 1, x0, x1, x7, x8, x241000, x241001 => if x8 < x241000 then (pomaderef04_colour.l0 k x0 x1 (wrap64 (x7 + (wrap64 ((wrap64 (x0 + 1)) - x8)))) (wrap64 (x8 + 1)) x241000 x241001) else (if 0 ≤ x7 then (if x7 < (x1.size : Int) then (some (bt x1 x7)) else (none)) else (none))
def pomaderef04_colour.f (k : Nat) (a0 : Int) (a1 : ByteArray) (a2_0 : Int) (a2_1 : Int) : Option (Int) := pomaderef04_colour.l0 k a0 a1 a2_1 0 a2_0 a2_1
theorem pomaderef04_colour.mono_l : ∀ k, (∀ y0 y1 y2 y3 y4 y5, LeO (pomaderef04_colour.l0 k y0 y1 y2 y3 y4 y5) (pomaderef04_colour.l0 (k + 1) y0 y1 y2 y3 y4 y5))
  | 0 => fun _ _ _ _ _ _ r h => by simp [pomaderef04_colour.l0] at h
  | k + 1 => by
    have ih0 := pomaderef04_colour.mono_l k
    · intro y0 y1 y2 y3 y4 y5
      unfold pomaderef04_colour.l0
      repeat' first
      | (with_reducible exact ih0 _ _ _ _ _ _)
      | (with_reducible exact LeO.refl _)
      | (with_reducible exact LeO.none _)
      | (with_reducible refine LeO.ite ?_ ?_)
      | (with_reducible refine LeO.bind ?_ (fun _ => ?_))
      | exact ih0 _ _ _ _ _ _
      | exact LeO.none _
      | refine LeO.ite ?_ ?_
      | refine LeO.bind ?_ (fun _ => ?_)
theorem pomaderef04_colour.mono : ∀ a0 a1 a2 a3 k, LeO (pomaderef04_colour.f k a0 a1 a2 a3) (pomaderef04_colour.f (k + 1) a0 a1 a2 a3) := by
  intro a0 a1 a2 a3 k
  have ih0 := pomaderef04_colour.mono_l k
  unfold pomaderef04_colour.f
  repeat' first
      | (with_reducible exact ih0 _ _ _ _ _ _)
      | (with_reducible exact LeO.refl _)
      | (with_reducible exact LeO.none _)
      | (with_reducible refine LeO.ite ?_ ?_)
      | (with_reducible refine LeO.bind ?_ (fun _ => ?_))
      | exact ih0 _ _ _ _ _ _
      | exact LeO.none _
      | refine LeO.ite ?_ ?_
      | refine LeO.bind ?_ (fun _ => ?_)
set_option maxHeartbeats 8000000 in
set_option maxRecDepth 100000 in
theorem pomaderef04_colour.calls (k : Nat) (a0 : Int) (a1 : ByteArray) (a2_0 : Int) (a2_1 : Int) (r : Int) (w : World) (h : pomaderef04_colour.f k a0 a1 a2_0 a2_1 = some r) :
    Calls Tryd.prog 73 #[.int .i64 a0, .string a1, .agg #[.int .i64 a2_0, .int .i64 a2_1]] w fun e w' => e = .returned (.int .u8 r) ∧ Below w.heap.size w w' := by
  have hu52 := Tryd.underlying52
  have HB := Aside0.mk (Below.refl w.heap.size w)
  have H : (pomaderef04_colour.l0 k a0 a1 a2_1 0 a2_0 a2_1) = some r := h
  clear h
  have H' := Aside0.mk H
  clear H
  go_enter Tryd.func73, Tryd.ntmps73
  go_wp2_with (first | ((with_reducible refine gate_dst (N := 5) rfl ?_); refine box_event ?hg (N := 5) ?hd (cs := #[.int .i64 a2_0, .int .i64 a2_1]) (t := 52) ?hr ?_; (case hd => rfl); (case hg => rfl); (case hr => first | (go_simp; done) | (go_simp; rfl)); intro gb240 hg w4 hbox hb; have n0_ := Aside0.mk (below_step (by repeat (first | (with_reducible first | exact HB.out | apply below_alloc | apply pw_below_drewN | apply below_drew1) | exact HB.out)) hb); have n1_ := Aside0.mk (hbox); have n2_ := Aside0.mk ((by rw [hg]; exact (below_size (by repeat (first | (with_reducible first | exact HB.out | apply below_alloc | apply pw_below_drewN | apply below_drew1) | exact HB.out))) : w.heap.size ≤ gb240)); have n3_ := Aside0.mk ((by rw [hg]; exact (below_size (by repeat (first | (with_reducible first | exact HB.out | apply below_alloc | apply pw_below_drewN | apply below_drew1) | exact HB.out))) : w.heap.size ≤ gb240)); clear HB; have HB := n0_; have BK240 := n1_; have GW240 := n2_; have GE240 := n3_; clear n0_ n1_ n2_ n3_; clear hb hbox hg; have hcz5_0 : w4.cell? ⟨gb240, 0, none⟩ = some (.int .i64 a2_0) := (blk_cell BK240.out 0).trans rfl; have hcz5_1 : w4.cell? ⟨gb240, 1, none⟩ = some (.int .i64 a2_1) := (blk_cell BK240.out 1).trans rfl; have hfz5_0 := blk_frozen BK240.out 0; have hfz5_1 := blk_frozen BK240.out 1))
  go_loopg [7, 8] k (fun kq v7 v8 w' => ∃ (x7_1 : Int) (x8_1 : Int), v7 = .int .i64 x7_1 ∧ v8 = .int .i64 x8_1 ∧ Aside0 (pomaderef04_colour.l0 kq a0 a1 x7_1 x8_1 a2_0 a2_1 = some r) ∧ Aside0 (kq ≤ k) ∧ Aside0 (w'.heap[gb240]? = some (.cells #[.int .i64 a2_0, .int .i64 a2_1] 52 (0, 0))) ∧ Aside0 (Below w.heap.size w w'))
  case atStart => exact ⟨(a2_1), (0), (by first | rfl | (simp; done) | (simp [*]; done)), (by first | rfl | (simp; done) | (simp [*]; done)), H', ⟨Nat.le_refl _⟩, ⟨by (with_reducible repeat (first | refine blk_drewN ?_ _ | refine blk_drew ?_ | refine blk_alloc ?_ _)); exact BK240.out⟩, ⟨by repeat (first | (with_reducible first | exact HB.out | apply below_alloc | apply pw_below_drewN | apply below_drew1 | refine below_set ?_ GE240.out) | exact HB.out)⟩⟩
  case round =>
    clear H'
    try clear p2
    try clear hcz5_0
    try clear hcz5_1
    try clear hfz5_0
    try clear hfz5_1
    obtain ⟨x7_1, x8_1, rfl, rfl, HA, HK1, BK240, HB⟩ := hrel
    cases gk with
    | zero => exact absurd HA.out (by simp [pomaderef04_colour.l0])
    | succ k1 =>
      have H := HA.out
      clear HA
      simp only [pomaderef04_colour.l0] at H
      by_cases c6 : x8_1 < a2_0
      · rw [if_pos c6] at H
        have c6b0 : decide (x8_1 < a2_0) = true := decide_eq_true c6
        clear c6
        have H' := Aside0.mk H
        clear H
        have hcz7_0 : wr.cell? ⟨gb240, 0, none⟩ = some (.int .i64 a2_0) := (blk_cell BK240.out 0).trans rfl
        have hcz7_1 : wr.cell? ⟨gb240, 1, none⟩ = some (.int .i64 a2_1) := (blk_cell BK240.out 1).trans rfl
        have hfz7_0 := blk_frozen BK240.out 0
        have hfz7_1 := blk_frozen BK240.out 1
        go_wp2
        go_roundg k1
        case measure => have := HK1.out; omega
        case rel => exact ⟨(wrap64 (x7_1 + (wrap64 ((wrap64 (a0 + 1)) - x8_1)))), (wrap64 (x8_1 + 1)), (by first | rfl | (simp; done) | (simp [*]; done)), (by first | rfl | (simp; done) | (simp [*]; done)), H', ⟨by have := HK1.out; omega⟩, ⟨by (with_reducible repeat (first | refine blk_drewN ?_ _ | refine blk_drew ?_ | refine blk_alloc ?_ _)); exact BK240.out⟩, ⟨by repeat (first | (with_reducible first | exact HB.out | apply below_alloc | apply pw_below_drewN | apply below_drew1 | refine below_set ?_ GE240.out) | exact HB.out)⟩⟩
      · rw [if_neg c6] at H
        have c6b0 : decide (x8_1 < a2_0) = false := decide_eq_false c6
        clear c6
        by_cases c8 : 0 ≤ x7_1
        · rw [if_pos c8] at H
          have c8b0 : decide (0 ≤ x7_1) = true := decide_eq_true c8
          clear c8
          by_cases c9 : x7_1 < (a1.size : Int)
          · rw [if_pos c9] at H
            have c9b0 : decide (x7_1 < (a1.size : Int)) = true := decide_eq_true c9
            clear c9
            obtain rfl := Option.some.inj H
            have hcz11_0 : wr.cell? ⟨gb240, 0, none⟩ = some (.int .i64 a2_0) := (blk_cell BK240.out 0).trans rfl
            have hcz11_1 : wr.cell? ⟨gb240, 1, none⟩ = some (.int .i64 a2_1) := (blk_cell BK240.out 1).trans rfl
            have hfz11_0 := blk_frozen BK240.out 0
            have hfz11_1 := blk_frozen BK240.out 1
            have p10 : 0 ≤ (x7_1 : Int) := of_decide_eq_true (by first | (with_reducible assumption) | assumption)
            have q10 : x7_1 < (a1.size : Int) := of_decide_eq_true (by first | (with_reducible assumption) | assumption)
            have hx10 := bt_at a1 x7_1
            replace p10 := eq_true p10
            replace q10 := eq_true q10
            go_wp2
            go_ret
            exact ⟨by first | rfl | (simp [errW_none, errW_some] <;> rfl) | (simp [*, errW_none, errW_some] <;> rfl), by repeat (first | (with_reducible first | exact HB.out | apply below_alloc | apply pw_below_drewN | apply below_drew1 | refine below_set ?_ GE240.out) | exact HB.out)⟩
          · rw [if_neg c9] at H
            exact absurd H (by simp)
        · rw [if_neg c8] at H
          exact absurd H (by simp)
def pomaderef04_full.f (a0 : ByteArray) : Option (Bool) := if 0 < (a0.size : Int) then (if 1 < (a0.size : Int) then (if (bt a0 0) = (bt a0 1) then (some false) else (if 2 < (a0.size : Int) then (if (bt a0 1) = (bt a0 2) then (some false) else (some ((bt a0 0) != (bt a0 2)))) else (none))) else (none)) else (none)
set_option maxHeartbeats 8000000 in
set_option maxRecDepth 100000 in
theorem pomaderef04_full.calls (a0 : ByteArray) (r : Bool) (w : World) (h : pomaderef04_full.f a0 = some r) :
    Calls Tryd.prog 57 #[.string a0] w fun e w' => e = .returned (.bool r) ∧ Drawn0 w w' := by
  have H : (if 0 < (a0.size : Int) then (if 1 < (a0.size : Int) then (if (bt a0 0) = (bt a0 1) then (some false) else (if 2 < (a0.size : Int) then (if (bt a0 1) = (bt a0 2) then (some false) else (some ((bt a0 0) != (bt a0 2)))) else (none))) else (none)) else (none)) = some r := h
  clear h
  by_cases c2 : 0 < (a0.size : Int)
  · rw [if_pos c2] at H
    have c2b0 : decide (0 < (a0.size : Int)) = true := decide_eq_true c2
    have c2b1 : decide (0 < a0.size) = true := decide_eq_true (by omega)
    clear c2
    by_cases c4 : 1 < (a0.size : Int)
    · rw [if_pos c4] at H
      have c4b0 : decide (1 < (a0.size : Int)) = true := decide_eq_true c4
      have c4b1 : decide (1 < a0.size) = true := decide_eq_true (by omega)
      clear c4
      by_cases c6 : (bt a0 0) = (bt a0 1)
      · rw [if_pos c6] at H
        have c6b0 : ((bt a0 0) == (bt a0 1)) = true := beq_iff_eq.mpr c6
        have c6b1 : ((bt a0 0) != (bt a0 1)) = false := bne_eq_false_iff_eq.mpr c6
        clear c6
        obtain rfl := Option.some.inj H
        have p3 : 0 ≤ (0 : Int) := (by omega)
        have q3 : 0 < a0.size := (by have : (0 : Int) < (a0.size : Int) := of_decide_eq_true (by first | (with_reducible assumption) | assumption); omega)
        have hx3 : ∀ h : 0 < a0.size, ((a0[0]'h).toNat : Int) = bt a0 0 := bt_at a0 0
        clear p3
        have qi3 : (0 < (a0.size : Int)) = True := eq_true (of_decide_eq_true (by first | (with_reducible assumption) | assumption))
        replace q3 := eq_true q3
        have p5 : 0 ≤ (1 : Int) := (by omega)
        have q5 : 1 < a0.size := (by have : (1 : Int) < (a0.size : Int) := of_decide_eq_true (by first | (with_reducible assumption) | assumption); omega)
        have hx5 : ∀ h : 1 < a0.size, ((a0[1]'h).toNat : Int) = bt a0 1 := bt_at a0 1
        clear p5
        have qi5 : (1 < (a0.size : Int)) = True := eq_true (of_decide_eq_true (by first | (with_reducible assumption) | assumption))
        replace q5 := eq_true q5
        go_enter Tryd.func57, Tryd.ntmps57
        go_wp2
        repeat (go_quiet (fail); try go_wp2)
        go_ret
        exact ⟨by first | rfl | (simp; done) | (simp [*]; done), by repeat (first | exact Drawn0.refl _ | apply Drawn0.step)⟩
      · rw [if_neg c6] at H
        have c6b0 : ((bt a0 0) == (bt a0 1)) = false := beq_eq_false_iff_ne.mpr c6
        have c6b1 : ((bt a0 0) != (bt a0 1)) = true := bne_iff_ne.mpr c6
        by_cases c8 : 2 < (a0.size : Int)
        · rw [if_pos c8] at H
          have c8b0 : decide (2 < (a0.size : Int)) = true := decide_eq_true c8
          have c8b1 : decide (2 < a0.size) = true := decide_eq_true (by omega)
          clear c8
          by_cases c10 : (bt a0 1) = (bt a0 2)
          · rw [if_pos c10] at H
            have c10b0 : ((bt a0 1) == (bt a0 2)) = true := beq_iff_eq.mpr c10
            have c10b1 : ((bt a0 1) != (bt a0 2)) = false := bne_eq_false_iff_eq.mpr c10
            clear c10
            obtain rfl := Option.some.inj H
            have p3 : 0 ≤ (0 : Int) := (by omega)
            have q3 : 0 < a0.size := (by have : (0 : Int) < (a0.size : Int) := of_decide_eq_true (by first | (with_reducible assumption) | assumption); omega)
            have hx3 : ∀ h : 0 < a0.size, ((a0[0]'h).toNat : Int) = bt a0 0 := bt_at a0 0
            clear p3
            have qi3 : (0 < (a0.size : Int)) = True := eq_true (of_decide_eq_true (by first | (with_reducible assumption) | assumption))
            replace q3 := eq_true q3
            have p5 : 0 ≤ (1 : Int) := (by omega)
            have q5 : 1 < a0.size := (by have : (1 : Int) < (a0.size : Int) := of_decide_eq_true (by first | (with_reducible assumption) | assumption); omega)
            have hx5 : ∀ h : 1 < a0.size, ((a0[1]'h).toNat : Int) = bt a0 1 := bt_at a0 1
            clear p5
            have qi5 : (1 < (a0.size : Int)) = True := eq_true (of_decide_eq_true (by first | (with_reducible assumption) | assumption))
            replace q5 := eq_true q5
            have p7 : 0 ≤ (1 : Int) := (by omega)
            have q7 : 1 < a0.size := (by have : (1 : Int) < (a0.size : Int) := of_decide_eq_true (by first | (with_reducible assumption) | assumption); omega)
            have hx7 : ∀ h : 1 < a0.size, ((a0[1]'h).toNat : Int) = bt a0 1 := bt_at a0 1
            clear p7
            have qi7 : (1 < (a0.size : Int)) = True := eq_true (of_decide_eq_true (by first | (with_reducible assumption) | assumption))
            replace q7 := eq_true q7
            have p9 : 0 ≤ (2 : Int) := (by omega)
            have q9 : 2 < a0.size := (by have : (2 : Int) < (a0.size : Int) := of_decide_eq_true (by first | (with_reducible assumption) | assumption); omega)
            have hx9 : ∀ h : 2 < a0.size, ((a0[2]'h).toNat : Int) = bt a0 2 := bt_at a0 2
            clear p9
            have qi9 : (2 < (a0.size : Int)) = True := eq_true (of_decide_eq_true (by first | (with_reducible assumption) | assumption))
            replace q9 := eq_true q9
            go_enter Tryd.func57, Tryd.ntmps57
            go_wp2
            repeat (go_quiet (fail); try go_wp2)
            go_ret
            exact ⟨by first | rfl | (simp; done) | (simp [*]; done), by repeat (first | exact Drawn0.refl _ | apply Drawn0.step)⟩
          · rw [if_neg c10] at H
            have c10b0 : ((bt a0 1) == (bt a0 2)) = false := beq_eq_false_iff_ne.mpr c10
            have c10b1 : ((bt a0 1) != (bt a0 2)) = true := bne_iff_ne.mpr c10
            obtain rfl := Option.some.inj H
            have p3 : 0 ≤ (0 : Int) := (by omega)
            have q3 : 0 < a0.size := (by have : (0 : Int) < (a0.size : Int) := of_decide_eq_true (by first | (with_reducible assumption) | assumption); omega)
            have hx3 : ∀ h : 0 < a0.size, ((a0[0]'h).toNat : Int) = bt a0 0 := bt_at a0 0
            clear p3
            have qi3 : (0 < (a0.size : Int)) = True := eq_true (of_decide_eq_true (by first | (with_reducible assumption) | assumption))
            replace q3 := eq_true q3
            have p5 : 0 ≤ (1 : Int) := (by omega)
            have q5 : 1 < a0.size := (by have : (1 : Int) < (a0.size : Int) := of_decide_eq_true (by first | (with_reducible assumption) | assumption); omega)
            have hx5 : ∀ h : 1 < a0.size, ((a0[1]'h).toNat : Int) = bt a0 1 := bt_at a0 1
            clear p5
            have qi5 : (1 < (a0.size : Int)) = True := eq_true (of_decide_eq_true (by first | (with_reducible assumption) | assumption))
            replace q5 := eq_true q5
            have p7 : 0 ≤ (1 : Int) := (by omega)
            have q7 : 1 < a0.size := (by have : (1 : Int) < (a0.size : Int) := of_decide_eq_true (by first | (with_reducible assumption) | assumption); omega)
            have hx7 : ∀ h : 1 < a0.size, ((a0[1]'h).toNat : Int) = bt a0 1 := bt_at a0 1
            clear p7
            have qi7 : (1 < (a0.size : Int)) = True := eq_true (of_decide_eq_true (by first | (with_reducible assumption) | assumption))
            replace q7 := eq_true q7
            have p9 : 0 ≤ (2 : Int) := (by omega)
            have q9 : 2 < a0.size := (by have : (2 : Int) < (a0.size : Int) := of_decide_eq_true (by first | (with_reducible assumption) | assumption); omega)
            have hx9 : ∀ h : 2 < a0.size, ((a0[2]'h).toNat : Int) = bt a0 2 := bt_at a0 2
            clear p9
            have qi9 : (2 < (a0.size : Int)) = True := eq_true (of_decide_eq_true (by first | (with_reducible assumption) | assumption))
            replace q9 := eq_true q9
            have p11 : 0 ≤ (0 : Int) := (by omega)
            have q11 : 0 < a0.size := (by have : (0 : Int) < (a0.size : Int) := of_decide_eq_true (by first | (with_reducible assumption) | assumption); omega)
            have hx11 : ∀ h : 0 < a0.size, ((a0[0]'h).toNat : Int) = bt a0 0 := bt_at a0 0
            clear p11
            have qi11 : (0 < (a0.size : Int)) = True := eq_true (of_decide_eq_true (by first | (with_reducible assumption) | assumption))
            replace q11 := eq_true q11
            have p12 : 0 ≤ (2 : Int) := (by omega)
            have q12 : 2 < a0.size := (by have : (2 : Int) < (a0.size : Int) := of_decide_eq_true (by first | (with_reducible assumption) | assumption); omega)
            have hx12 : ∀ h : 2 < a0.size, ((a0[2]'h).toNat : Int) = bt a0 2 := bt_at a0 2
            clear p12
            have qi12 : (2 < (a0.size : Int)) = True := eq_true (of_decide_eq_true (by first | (with_reducible assumption) | assumption))
            replace q12 := eq_true q12
            go_enter Tryd.func57, Tryd.ntmps57
            go_wp2
            repeat (go_quiet (fail); try go_wp2)
            go_ret
            exact ⟨by first | rfl | (simp; done) | (simp [*]; done), by repeat (first | exact Drawn0.refl _ | apply Drawn0.step)⟩
        · rw [if_neg c8] at H
          exact absurd H (by simp)
    · rw [if_neg c4] at H
      exact absurd H (by simp)
  · rw [if_neg c2] at H
    exact absurd H (by simp)
end Go.Proofs.YtlmgkmmdaecpdaaDoor.Im

