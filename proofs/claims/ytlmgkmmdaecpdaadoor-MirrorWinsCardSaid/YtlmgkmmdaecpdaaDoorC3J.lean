/- Further parts of the same walk: contracts of the functions that the law reaches, each under the conditions that it states. -/
import Derived.Test.YtlmgkmmdaecpdaaDoorC3I
import Derived.Carry
namespace Go.Proofs.YtlmgkmmdaecpdaaDoor.Im
open Go.RowKit Go.Proofs.YtlmgkmmdaecpdaaDoorW.PrintWords Go.Proofs.YtlmgkmmdaecpdaaDoorW.PrintLast Go.Proofs.YtlmgkmmdaecpdaaDoorW.PrintMore Go.Proofs.YtlmgkmmdaecpdaaDoor.Mi
set_option linter.unusedVariables false
set_option linter.unusedSimpArgs false
def b012 : ByteArray := ⟨#[48, 49, 50]⟩
set_option maxHeartbeats 6400000 in
set_option maxRecDepth 100000 in
theorem of_bad (n : Int) (s : ByteArray) (w : World) (hs : s.size ≤ 9223372036854775807) (hE : triE n s ≠ 0) :
    Calls Tryd.prog 53 #[.int .i64 n, .string s] w (OfPost n s w) := by
  have HT := Aside0.mk (fun w1 => trim_any s w1 b012 hs (by decide) (by decide))
  unfold b012 at HT
  by_cases h1 : n < 1
  · have hE2 : triE n s = 2 := by unfold triE; rw [if_pos (.inl h1)]
    have HP : Aside0 (∀ w', Below w.heap.size w w' → OfPost n s w (.returned (.tuple #[.pointer none, .int .i64 2])) w') := ⟨fun w' hb => ⟨hb, by rw [hE2, if_neg (by omega)]⟩⟩
    clear hE hE2 HT
    go_enter Tryd.func53, Tryd.ntmps53
    go_wp2_with fail
    go_ret2
    exact HP.out _ (Below.refl _ _)
  · by_cases h2 : 20 < n
    · have hE2 : triE n s = 2 := by unfold triE; rw [if_pos (.inr h2)]
      have HP : Aside0 (∀ w', Below w.heap.size w w' → OfPost n s w (.returned (.tuple #[.pointer none, .int .i64 2])) w') := ⟨fun w' hb => ⟨hb, by rw [hE2, if_neg (by omega)]⟩⟩
      clear hE hE2 HT
      go_enter Tryd.func53, Tryd.ntmps53
      go_wp2_with fail
      go_ret2
      exact HP.out _ (Below.refl _ _)
    · obtain ⟨m, rfl⟩ : ∃ m : Nat, n = m := ⟨n.toNat, by omega⟩
      obtain ⟨K, hK⟩ : ∃ K, offT m (m + 1) = K := ⟨_, rfl⟩
      have hE2 : triE m s = 5 := by
        unfold triE at hE ⊢
        rw [if_neg (by omega)] at hE ⊢
        split at hE
        · exact absurd rfl hE
        · rename_i hx; rw [if_neg hx]
      have HP : Aside0 (∀ w', Below w.heap.size w w' → OfPost m s w (.returned (.tuple #[.pointer none, .int .i64 5])) w') := ⟨fun w' hb => ⟨hb, by rw [hE2, if_neg (by omega)]⟩⟩
      have hq0 : ((m : Int) + 1) * ((m : Int) + 2) = (((m + 1) * (m + 2) : Nat) : Int) := by push_cast; rfl
      have hmm : (m + 1) * (m + 2) ≤ 462 := Nat.mul_le_mul (show m + 1 ≤ 21 by omega) (show m + 2 ≤ 22 by omega)
      have hq : Int.tdiv (((m : Int) + 1) * ((m : Int) + 2)) 2 = (K : Int) := by
        rw [hq0, ← hK, offT_val m (by omega)]
        rfl
      have hw1 : wrap64 (((m : Int) + 1) * ((m : Int) + 2)) = ((m : Int) + 1) * ((m : Int) + 2) := by rw [hq0]; unfold wrap64; omega
      have hwK : wrap64 (K : Int) = (K : Int) := by have := offT_le (n := m) (by omega); unfold wrap64; omega
      by_cases h3 : s.size = K
      · have h3' : ((s.size : Int) == (K : Int)) = true := beq_iff_eq.2 (by omega)
        have h3'' : ((s.size : Int) != (K : Int)) = false := by rw [bne, h3']; rfl
        have hem : (⟨(Lib.trimS s.data.toList b012.data.toList).toArray⟩ : ByteArray).toList.isEmpty = false := by
          rw [ByteArray.toList_mk, Bool.eq_false_iff]
          intro h
          rw [List.isEmpty_iff, trim_nil] at h
          refine hE ?_
          unfold triE
          rw [if_neg (by omega), if_pos ⟨by rw [Int.toNat_natCast, hK]; exact h3, h⟩]
        unfold b012 at hem
        generalize (⟨(Lib.trimS s.data.toList (⟨#[48, 49, 50]⟩ : ByteArray).data.toList).toArray⟩ : ByteArray) = r at *
        clear hE hE2 hq0 hmm hK
        go_enter Tryd.func53, Tryd.ntmps53
        go_wp2_with fail
        refine (HT.out _).mono ?_
        rintro e w2 ⟨rfl, hb2⟩
        have HB := Aside0.mk hb2
        clear hb2
        go_wp2_with fail
        go_ret2
        exact HP.out _ HB.out
      · have h3' : ((s.size : Int) == (K : Int)) = false := beq_eq_false_iff_ne.2 (by omega)
        have h3'' : ((s.size : Int) != (K : Int)) = true := by rw [bne, h3']; rfl
        clear hE hE2 HT hq0 hmm hK
        go_enter Tryd.func53, Tryd.ntmps53
        go_wp2_with fail
        go_ret2
        exact HP.out _ (Below.refl _ _)
end Go.Proofs.YtlmgkmmdaecpdaaDoor.Im

namespace Go.Proofs.YtlmgkmmdaecpdaaDoor.Im
open Go.RowKit Go.Proofs.YtlmgkmmdaecpdaaDoorW.PrintWords Go.Proofs.YtlmgkmmdaecpdaaDoorW.PrintLast Go.Proofs.YtlmgkmmdaecpdaaDoorW.PrintMore Go.Proofs.YtlmgkmmdaecpdaaDoor.Mi
set_option linter.unusedVariables false
set_option linter.unusedSimpArgs false
structure OfI (n g mb r c : Nat) (l : List UInt8) (W0 : World) (D : DataW Unit) (wr : World) : Prop where
  keep : Keep (fun x => x ≠ mb) W0 wr
  own : wr.ownsMap Tryd.prog 95 (plainElem Tryd.prog 5) mb (offT n r + c) D
  all : TriI n l r c D
theorem OfI.step {n g mb r c : Nat} {l : List UInt8} {W0 wr w2 : World} {D : DataW Unit} (h : OfI n g mb r c l W0 D wr) (hn : n ≤ 20) (hr : r + c ≤ n)
    (ho : w2.ownsMap Tryd.prog 95 (plainElem Tryd.prog 5) mb (offT n r + c + 1) (D.put (kP r c) (.lit (.int .u8 (colT n l r c))))) (hg : wr.drew.grownBy w2 (some mb)) : OfI n g mb r (c + 1) l W0 (D.put (kP r c) (.lit (.int .u8 (colT n l r c)))) w2 :=
  ⟨(h.keep.trans (Keep.of_below (below_drew (Below.refl _ _)))).trans (Keep.of_grown hg (fun h => h rfl)), ho, h.all.put hn hr⟩
theorem OfI.row {n g mb r c : Nat} {l : List UInt8} {W0 wr : World} {D : DataW Unit} (h : OfI n g mb r c l W0 D wr) (hr : r ≤ n) (hc : c = n + 1 - r) : OfI n g mb (r + 1) 0 l W0 D wr :=
  ⟨h.keep, by rw [hc] at h; exact h.own, h.all.row (by omega)⟩
set_option maxHeartbeats 6400000 in
set_option maxRecDepth 100000 in
theorem of_good (n : Int) (s : ByteArray) (w : World) (hs : s.size ≤ 9223372036854775807) (hE : triE n s = 0) :
    Calls Tryd.prog 53 #[.int .i64 n, .string s] w (OfPost n s w) := by
  have HT := Aside0.mk (fun w1 => trim_any s w1 b012 hs (by decide) (by decide))
  have hok : 1 ≤ n ∧ n ≤ 20 ∧ s.size = offT n.toNat (n.toNat + 1) ∧ s.data.toList.all ([48, 49, 50].contains ·) = true := by
    unfold triE at hE
    split at hE
    · cases hE
    · split at hE
      · rename_i h1 h2; exact ⟨by omega, by omega, h2⟩
      · cases hE
  obtain ⟨h1, h2, h3, h4⟩ := hok
  obtain ⟨m, rfl⟩ : ∃ m : Nat, n = m := ⟨n.toNat, by omega⟩
  rw [Int.toNat_natCast] at h3
  have hem : (⟨(Lib.trimS s.data.toList b012.data.toList).toArray⟩ : ByteArray).toList.isEmpty = true := by
    rw [ByteArray.toList_mk, List.isEmpty_iff, trim_nil]
    exact h4
  unfold b012 at HT hem
  generalize (⟨(Lib.trimS s.data.toList (⟨#[48, 49, 50]⟩ : ByteArray).data.toList).toArray⟩ : ByteArray) = r at *
  have HE := Aside0.mk hE
  have HL : Aside0 (s.data.toList.length = offT m (m + 1)) := ⟨by rw [Array.length_toList]; exact h3⟩
  have HO : Aside0 (∀ b ∈ s.data.toList, b = 48 ∨ b = 49 ∨ b = 50) := ⟨fun b hb => by
    have := List.all_eq_true.1 h4 b hb
    simpa using this⟩
  obtain ⟨K, hK⟩ : ∃ K, offT m (m + 1) = K := ⟨_, rfl⟩
  have hq0 : ((m : Int) + 1) * ((m : Int) + 2) = (((m + 1) * (m + 2) : Nat) : Int) := by push_cast; rfl
  have hmm : (m + 1) * (m + 2) ≤ 462 := Nat.mul_le_mul (show m + 1 ≤ 21 by omega) (show m + 2 ≤ 22 by omega)
  have hq : Int.tdiv (((m : Int) + 1) * ((m : Int) + 2)) 2 = (K : Int) := by
    rw [hq0, ← hK, offT_val m (by omega)]
    rfl
  have hw1 : wrap64 (((m : Int) + 1) * ((m : Int) + 2)) = ((m : Int) + 1) * ((m : Int) + 2) := by rw [hq0]; unfold wrap64; omega
  have hwK : wrap64 (K : Int) = (K : Int) := by have := offT_le (n := m) (by omega); unfold wrap64; omega
  have h3' : ((s.size : Int) == (K : Int)) = true := beq_iff_eq.2 (by omega)
  have h3'' : ((s.size : Int) != (K : Int)) = false := by rw [bne, h3']; rfl
  have hsK : s.size = K := by omega
  have HK := Aside0.mk hK
  have hmk := @run_makeMap Tryd.prog
  have hval := fun (v : Int) (h : (Lit.int .u8 v).wf = true) => plainElem_int (H := Unit) (P := Tryd.prog) Tryd.underlying5 h
  clear hE h3 h4 hq0 hmm hK
  go_enter Tryd.func53, Tryd.ntmps53
  go_wp2_with fail
  refine (HT.out _).mono ?_
  rintro e w2 ⟨rfl, hb2⟩
  have HB := Aside0.mk hb2
  clear hb2
  go_wp2_with fail
  have hb3 : Below w2.heap.size w2 ((w2.alloc (.map #[] 0)).alloc (.cells #[.int .i64 (m : Nat), .map (some w2.heap.size)] 117)) := below_alloc (below_alloc (Below.refl _ _) _) _
  have HB3 := Aside0.mk (below_then HB.out HB.out.size hb3)
  have HZ := Aside0.mk (show w.heap.size ≤ w2.heap.size from HB.out.size)
  have hown : ((w2.alloc (.map #[] 0)).alloc (.cells #[.int .i64 (m : Nat), .map (some w2.heap.size)] 117)).ownsMap Tryd.prog 95 (plainElem Tryd.prog 5) w2.heap.size 0 (.map [] : DataW Unit) := (World.ownsMap_made w2 _ _ _).alloc _
  have HI0 : Aside0 (OfI m (w2.heap.size + 1) w2.heap.size 0 0 s.data.toList ((w2.alloc (.map #[] 0)).alloc (.cells #[.int .i64 (m : Nat), .map (some w2.heap.size)] 117)) (.map []) ((w2.alloc (.map #[] 0)).alloc (.cells #[.int .i64 (m : Nat), .map (some w2.heap.size)] 117))) := ⟨⟨Keep.refl _ _, hown, TriI.start _ _⟩⟩
  have HG0 : Aside0 (Blk ((w2.alloc (.map #[] 0)).alloc (.cells #[.int .i64 (m : Nat), .map (some w2.heap.size)] 117)) (w2.heap.size + 1) 117 #[.int .i64 (m : Nat), .map (some w2.heap.size)]) := ⟨Blk.new' (by simp)⟩
  obtain ⟨gm, hgm⟩ : ∃ gm, w2.heap.size = gm := ⟨_, rfl⟩
  rw [hgm] at HB3 HI0 HG0 HZ ⊢
  have HSK := Aside0.mk hsK
  clear hb3 hown hmk hem HB HT hsK h3' h3'' hq hw1 hwK
  generalize (w2.alloc (.map #[] 0)).alloc (.cells #[.int .i64 (m : Nat), .map (some gm)] 117) = W0 at *
  go_loopw [7, 38] (fun v7 v38 wr => ∃ (i : Nat) (D : DataW Unit), i ≤ m + 1 ∧ v38 = .int .i64 (i : Int) ∧ v7 = .int .i64 (offT m i : Nat) ∧ Aside0 (OfI m (gm + 1) gm i 0 s.data.toList W0 D wr)) (fun _ v _ => m + 1 - (intOf v).toNat)
  case atStart => exact ⟨0, _, Nat.zero_le _, rfl, rfl, HI0⟩
  case round =>
    clear HI0
    obtain ⟨i, D, hi, rfl, rfl, HI⟩ := hrel
    by_cases him : i < m + 1
    · have hom := offT_lt (n := m) (i := i) (j := 0) (by omega)
      have hol := offT_le (n := m) (by omega)
      have hdi : decide ((i : Int) < (m : Int) + 1) = true := decide_eq_true (by omega)
      go_wp2_with fail
      have hI1 : Aside0 (∃ D1 : DataW Unit, OfI m (gm + 1) gm i 0 s.data.toList W0 D1 wr) := ⟨⟨D, HI.out⟩⟩
      clear HI
      go_loopw [7, 45] (fun v7 v45 wr => ∃ (j : Nat) (D1 : DataW Unit), j ≤ m + 1 - i ∧ v45 = .int .i64 (j : Int) ∧ v7 = .int .i64 (offT m i + j : Nat) ∧ Aside0 (OfI m (gm + 1) gm i j s.data.toList W0 D1 wr)) (fun _ v _ => m + 1 - i - (intOf v).toNat)
      case atStart => obtain ⟨D1, h1⟩ := hI1.out; exact ⟨0, D1, Nat.zero_le _, rfl, rfl, ⟨h1⟩⟩
      case round =>
        clear hI1
        obtain ⟨j, D1, hj, rfl, rfl, HJ⟩ := hrel
        by_cases hjm : j < m + 1 - i
        · have hlt := offT_lt (n := m) (i := i) (j := j) (by omega)
          have hks : offT m i + j < s.size := by rw [HSK.out, ← HK.out]; exact hlt
          have k0 : (0 : Int) ≤ ((offT m i + j : Nat) : Int) := Int.natCast_nonneg _
          have k1 : ((offT m i + j : Nat) : Int) < (s.size : Int) := Int.ofNat_lt.2 hks
          have hcol : ((s[offT m i + j]'hks).toNat : Int) = colT m s.data.toList i j := by
            unfold colT
            have : s.data.toList.getD (offT m i + j) 0 = s[offT m i + j]'hks := by
              rw [List.getD_eq_getElem?_getD, Array.getElem?_toList, Array.getElem?_eq_getElem (show offT m i + j < s.data.size from hks)]
              rfl
            rw [this]
          have hgk := (HJ.out.keep.blk HG0.out (Nat.succ_ne_self gm))
          have y1 : wr.cell? ⟨gm + 1, 1, none⟩ = some (.map (some gm)) := hgk.cell 1
          have y1d : wr.drew.cell? ⟨gm + 1, 1, none⟩ = some (.map (some gm)) := y1
          have hown : wr.drew.ownsMap Tryd.prog 95 (plainElem Tryd.prog 5) gm (offT m i + j) D1 := HJ.out.own.drew
          have hlm : offT m i + j < maxLen := by
            have : maxLen = 9223372036854775807 := rfl
            have := offT_le (n := m) (by omega)
            omega
          have hkey := key_P (i := i) (j := j) (by omega) (by omega)
          have hv1 := hval ((s[offT m i + j]'hks).toNat : Int) (by
            have := (s[offT m i + j]'hks).toNat_lt
            simp [Lit.wf]
            constructor
            · exact Int.natCast_nonneg _
            · show _ ≤ (255 : Int)
              omega)
          have hv2 := hv1
          rw [hcol] at hv2
          have him2 : i ≤ 20 := by omega
          have hij : i + j ≤ m := by omega
          have HIJ := Aside0.mk hij
          have HM20 : Aside0 (m ≤ 20) := ⟨by omega⟩
          have HCOL := Aside0.mk hcol
          have hk1 : offT m i + j + 1 = offT m i + (j + 1) := rfl
          have hkl : offT m i + j ≤ 300 := by
            have := offT_le (n := m) (by omega)
            omega
          generalize hKK : offT m i + j = kk at *
          have hix : ∀ w : World, (Instr.index 9 (.string s) (.int .i64 (kk : Int))).run Tryd.prog w = .ok (.int .u8 ((s[kk]'hks).toNat : Int)) w := fun w => by
            have h := run_index_string (P := Tryd.prog) (w := w) 9 s .i64 (kk : Int) Tryd.underlying9
            rw [dif_pos (And.intro k0 k1)] at h
            exact h
          clear hgk hv2 hcol
          go_upto_region 13 with fail
          go_still_tail 10, (by kernel_rfl)
          go_wp2_with (at_mapUpdate; refine wpList_mapUpdate_own _ rfl _ _ _ 115 rfl 95 5 lawP Tryd.underlying115 _ gm kk D1 rfl hown hlm _ _ (kP i j) rfl rfl hkey (.lit (.int .u8 ((s[kk]'hks).toNat : Int))) [] hv1 ?_; intro w3 hown3 hg3; have HW3 := Aside0.mk hown3; have HG3 := Aside0.mk hg3; clear hown3 hg3)
          go_roundw
          case rel =>
            refine ⟨j + 1, D1.put (kP i j) (.lit (.int .u8 (colT m s.data.toList i j))), by omega, by go_num, by rw [← hk1]; go_num, ⟨?_⟩⟩
            rw [HCOL.out] at HW3
            have h3 := HW3.out
            rw [← hKK] at h3
            exact HJ.out.step HM20.out HIJ.out h3 HG3.out
          case measure => simp [intOf]; omega
        · obtain hjE : j = m + 1 - i := by omega
          have hoff : offT m i + j = offT m (i + 1) := by rw [hjE]; rfl
          rw [hoff]
          go_wp2_with fail
          go_roundw
          case rel => exact ⟨i + 1, D1, him, by go_num, rfl, ⟨HJ.out.row (by omega) hjE⟩⟩
          case measure => simp [intOf]; omega
    · obtain rfl : i = m + 1 := by omega
      go_wp2_with fail
      go_ret2
      have hkp : Keep (fun x => x ≠ gm) W0 wr := HI.out.keep
      refine ⟨HB3.out.trans (hkp.below (B := w.heap.size) HB3.out.size (fun x hx => by have := HZ.out; omega)), ?_⟩
      · rw [if_pos HE.out]
        exact ⟨gm + 1, gm, _, D, rfl, ⟨hkp.blk HG0.out (Nat.succ_ne_self gm), HI.out.own, HI.out.all, by omega, by omega, HL.out, HO.out⟩, by have := HZ.out; omega, HZ.out⟩
theorem of_any (n : Int) (s : ByteArray) (w : World) (hs : s.size ≤ 9223372036854775807) : Calls Tryd.prog 53 #[.int .i64 n, .string s] w (OfPost n s w) := by
  by_cases hE : triE n s = 0
  · exact of_good n s w hs hE
  · exact of_bad n s w hs hE
end Go.Proofs.YtlmgkmmdaecpdaaDoor.Im

namespace Go.Proofs.YtlmgkmmdaecpdaaDoor.Im
open Go.RowKit Go.Proofs.YtlmgkmmdaecpdaaDoorW.PrintWords Go.Proofs.YtlmgkmmdaecpdaaDoorW.PrintLast Go.Proofs.YtlmgkmmdaecpdaaDoorW.PrintMore Go.Proofs.YtlmgkmmdaecpdaaDoor.Mi
set_option linter.unusedVariables false
set_option linter.unusedSimpArgs false
theorem below_setg {g : Nat} {w w' : World} {i : Nat} (h : Below g w w') (v : Int) : Below g w (w'.setCell ⟨g + 1, i, none⟩ (.int .i64 v)) := h.setCell (Nat.le_succ g) _
set_option maxHeartbeats 6400000 in
set_option maxRecDepth 100000 in
theorem points_0 (i j : Nat) (w : World) (hi : i ≤ 20) (hj : j ≤ 20) :
    Calls Tryd.prog 83 #[.agg #[.int .i64 0, .int .i64 (i : Nat), .int .i64 (j : Nat)]] w fun e w' => e = .returned (.agg #[.int .i64 (i : Nat), .int .i64 (j : Nat), .int .i64 ((i : Int) + 1), .int .i64 (j : Nat), .int .i64 (i : Nat), .int .i64 ((j : Int) + 1)]) ∧ Below w.heap.size w w' := by
  go_enter Tryd.func83, Tryd.ntmps83
  go_wp2_with fail
  obtain ⟨g, hg⟩ : ∃ g, w.heap.size = g := ⟨_, rfl⟩
  have h1 : Blk ((w.alloc (.cells #[.int .i64 0, .int .i64 (i : Nat), .int .i64 (j : Nat)] 81)).alloc (.cells #[.int .i64 0, .int .i64 0, .int .i64 0, .int .i64 0, .int .i64 0, .int .i64 0] 118)) g 81 #[.int .i64 0, .int .i64 (i : Nat), .int .i64 (j : Nat)] := by rw [← hg]; exact (Blk.new w _ _).alloc _
  have h2 : Blk ((w.alloc (.cells #[.int .i64 0, .int .i64 (i : Nat), .int .i64 (j : Nat)] 81)).alloc (.cells #[.int .i64 0, .int .i64 0, .int .i64 0, .int .i64 0, .int .i64 0, .int .i64 0] 118)) (g + 1) 118 #[.int .i64 0, .int .i64 0, .int .i64 0, .int .i64 0, .int .i64 0, .int .i64 0] := by rw [← hg]; exact Blk.new' (by simp)
  have hb : Below w.heap.size w ((w.alloc (.cells #[.int .i64 0, .int .i64 (i : Nat), .int .i64 (j : Nat)] 81)).alloc (.cells #[.int .i64 0, .int .i64 0, .int .i64 0, .int .i64 0, .int .i64 0, .int .i64 0] 118)) := below_alloc (below_alloc (Below.refl _ _) _) _
  have H1 := Aside0.mk h1
  have H2 := Aside0.mk h2
  have HB := Aside0.mk hb
  rw [hg] at HB ⊢
  clear h1 h2 hb
  generalize (w.alloc (.cells #[.int .i64 0, .int .i64 (i : Nat), .int .i64 (j : Nat)] 81)).alloc (.cells #[.int .i64 0, .int .i64 0, .int .i64 0, .int .i64 0, .int .i64 0, .int .i64 0] 118) = W at *
  have c0 : W.cell? ⟨g, 0, none⟩ = some (.int .i64 0) := H1.out.cell 0
  have c1 : W.cell? ⟨g, 1, none⟩ = some (.int .i64 (i : Nat)) := H1.out.cell 1
  have c2 : W.cell? ⟨g, 2, none⟩ = some (.int .i64 (j : Nat)) := H1.out.cell 2
  go_quiet (fail)
  have f2 := fun (i : Nat) => (H2.out.drewN nq).frozen i
  have o0 : (W.drewN nq).cell? ⟨g + 1, 0, none⟩ = some (.int .i64 0) := (H2.out.drewN nq).cell 0
  have o1 : (W.drewN nq).cell? ⟨g + 1, 1, none⟩ = some (.int .i64 0) := (H2.out.drewN nq).cell 1
  have o2 : (W.drewN nq).cell? ⟨g + 1, 2, none⟩ = some (.int .i64 0) := (H2.out.drewN nq).cell 2
  have o3 : (W.drewN nq).cell? ⟨g + 1, 3, none⟩ = some (.int .i64 0) := (H2.out.drewN nq).cell 3
  have o4 : (W.drewN nq).cell? ⟨g + 1, 4, none⟩ = some (.int .i64 0) := (H2.out.drewN nq).cell 4
  have o5 : (W.drewN nq).cell? ⟨g + 1, 5, none⟩ = some (.int .i64 0) := (H2.out.drewN nq).cell 5
  go_wp2_with fail
  have hB := (((((((H2.out.drewN nq).set_ 0 (.int .i64 (i : Nat))).set_ 1 (.int .i64 (j : Nat))).set_ 2 (.int .i64 ((i : Int) + 1))).set_ 3 (.int .i64 (j : Nat))).set_ 4 (.int .i64 (i : Nat))).set_ 5 (.int .i64 ((j : Int) + 1)))
  have hBB := HB.out
  refine bodyPost_ret (results_cell_row rfl _ _ (g + 1) 118 #[.int .i64 (i : Nat), .int .i64 (j : Nat), .int .i64 ((i : Int) + 1), .int .i64 (j : Nat), .int .i64 (i : Nat), .int .i64 ((j : Int) + 1)] (0, 0) _ rfl hB Tryd.underlying118 rfl (by kernel_rfl)) rfl ?_
  refine ⟨rfl, ?_⟩
  rw [hg]
  exact below_setg (below_setg (below_setg (below_setg (below_setg (below_setg (pw_below_drewN hBB nq) _) _) _) _) _) _
set_option maxHeartbeats 6400000 in
set_option maxRecDepth 100000 in
theorem points_1 (i j : Nat) (w : World) (hi : i ≤ 20) (hj : j ≤ 20) :
    Calls Tryd.prog 83 #[.agg #[.int .i64 1, .int .i64 (i : Nat), .int .i64 (j : Nat)]] w fun e w' => e = .returned (.agg #[.int .i64 ((i : Int) + 1), .int .i64 (j : Nat), .int .i64 (i : Nat), .int .i64 ((j : Int) + 1), .int .i64 ((i : Int) + 1), .int .i64 ((j : Int) + 1)]) ∧ Below w.heap.size w w' := by
  go_enter Tryd.func83, Tryd.ntmps83
  go_wp2_with fail
  obtain ⟨g, hg⟩ : ∃ g, w.heap.size = g := ⟨_, rfl⟩
  have h1 : Blk ((w.alloc (.cells #[.int .i64 1, .int .i64 (i : Nat), .int .i64 (j : Nat)] 81)).alloc (.cells #[.int .i64 0, .int .i64 0, .int .i64 0, .int .i64 0, .int .i64 0, .int .i64 0] 118)) g 81 #[.int .i64 1, .int .i64 (i : Nat), .int .i64 (j : Nat)] := by rw [← hg]; exact (Blk.new w _ _).alloc _
  have h2 : Blk ((w.alloc (.cells #[.int .i64 1, .int .i64 (i : Nat), .int .i64 (j : Nat)] 81)).alloc (.cells #[.int .i64 0, .int .i64 0, .int .i64 0, .int .i64 0, .int .i64 0, .int .i64 0] 118)) (g + 1) 118 #[.int .i64 0, .int .i64 0, .int .i64 0, .int .i64 0, .int .i64 0, .int .i64 0] := by rw [← hg]; exact Blk.new' (by simp)
  have hb : Below w.heap.size w ((w.alloc (.cells #[.int .i64 1, .int .i64 (i : Nat), .int .i64 (j : Nat)] 81)).alloc (.cells #[.int .i64 0, .int .i64 0, .int .i64 0, .int .i64 0, .int .i64 0, .int .i64 0] 118)) := below_alloc (below_alloc (Below.refl _ _) _) _
  have H1 := Aside0.mk h1
  have H2 := Aside0.mk h2
  have HB := Aside0.mk hb
  rw [hg] at HB ⊢
  clear h1 h2 hb
  generalize (w.alloc (.cells #[.int .i64 1, .int .i64 (i : Nat), .int .i64 (j : Nat)] 81)).alloc (.cells #[.int .i64 0, .int .i64 0, .int .i64 0, .int .i64 0, .int .i64 0, .int .i64 0] 118) = W at *
  have c0 : W.cell? ⟨g, 0, none⟩ = some (.int .i64 1) := H1.out.cell 0
  have c1 : W.cell? ⟨g, 1, none⟩ = some (.int .i64 (i : Nat)) := H1.out.cell 1
  have c2 : W.cell? ⟨g, 2, none⟩ = some (.int .i64 (j : Nat)) := H1.out.cell 2
  go_quiet (fail)
  have f2 := fun (i : Nat) => (H2.out.drewN nq).frozen i
  have o0 : (W.drewN nq).cell? ⟨g + 1, 0, none⟩ = some (.int .i64 0) := (H2.out.drewN nq).cell 0
  have o1 : (W.drewN nq).cell? ⟨g + 1, 1, none⟩ = some (.int .i64 0) := (H2.out.drewN nq).cell 1
  have o2 : (W.drewN nq).cell? ⟨g + 1, 2, none⟩ = some (.int .i64 0) := (H2.out.drewN nq).cell 2
  have o3 : (W.drewN nq).cell? ⟨g + 1, 3, none⟩ = some (.int .i64 0) := (H2.out.drewN nq).cell 3
  have o4 : (W.drewN nq).cell? ⟨g + 1, 4, none⟩ = some (.int .i64 0) := (H2.out.drewN nq).cell 4
  have o5 : (W.drewN nq).cell? ⟨g + 1, 5, none⟩ = some (.int .i64 0) := (H2.out.drewN nq).cell 5
  go_wp2_with fail
  have hB := (((((((H2.out.drewN nq).set_ 0 (.int .i64 ((i : Int) + 1))).set_ 1 (.int .i64 (j : Nat))).set_ 2 (.int .i64 (i : Nat))).set_ 3 (.int .i64 ((j : Int) + 1))).set_ 4 (.int .i64 ((i : Int) + 1))).set_ 5 (.int .i64 ((j : Int) + 1)))
  have hBB := HB.out
  refine bodyPost_ret (results_cell_row rfl _ _ (g + 1) 118 #[.int .i64 ((i : Int) + 1), .int .i64 (j : Nat), .int .i64 (i : Nat), .int .i64 ((j : Int) + 1), .int .i64 ((i : Int) + 1), .int .i64 ((j : Int) + 1)] (0, 0) _ rfl hB Tryd.underlying118 rfl (by kernel_rfl)) rfl ?_
  refine ⟨rfl, ?_⟩
  rw [hg]
  exact below_setg (below_setg (below_setg (below_setg (below_setg (below_setg (pw_below_drewN hBB nq) _) _) _) _) _) _
end Go.Proofs.YtlmgkmmdaecpdaaDoor.Im

namespace Go.Proofs.YtlmgkmmdaecpdaaDoor.Im
open Go.RowKit Go.Proofs.YtlmgkmmdaecpdaaDoorW.PrintWords Go.Proofs.YtlmgkmmdaecpdaaDoorW.PrintLast Go.Proofs.YtlmgkmmdaecpdaaDoorW.PrintMore Go.Proofs.YtlmgkmmdaecpdaaDoor.Mi
set_option linter.unusedVariables false
set_option linter.unusedSimpArgs false
def colB (n : Nat) (l : List UInt8) (a b : Nat) : UInt8 := l.getD (offT n a + b) 0
theorem zeroU2 (w : World) : (zeroValue 5).run Tryd.prog w = .ok (.int .u8 0) w := by kernel_rfl
theorem tri_look {w : World} {g n mb m : Nat} {l : List UInt8} {D : DataW Unit} (h : Tri w g n mb m l D) {a b : Nat} (hab : a + b ≤ n) :
    (Instr.lookup 115 (.map (some mb)) (.agg #[.int .i64 (a : Nat), .int .i64 (b : Nat)]) false).run Tryd.prog w = .ok (.int .u8 ((colB n l a b).toNat : Int)) w := by
  have h20 := h.n20
  obtain ⟨c, h1, h2, _⟩ := h.own.lookup_int lawP Tryd.underlying115 Tryd.underlying5 (zeroU2 w) (key_P (i := a) (j := b) (by omega) (by omega))
  have h3 := h.all.at_ a b hab (.inl (by omega)) (.lit (.int .u8 0))
  rw [h3] at h2
  cases h2
  exact h1
theorem conv3 (w : World) (t : TypeId) (a b c : UInt8) (cap : Nat) : (convert 60 9 (.slice (some ⟨w.heap.size, 0, none⟩) 3 cap)).run Tryd.prog (w.alloc (.cells #[.int .u8 (a.toNat : Int), .int .u8 (b.toNat : Int), .int .u8 (c.toNat : Int)] t)).drew = .ok (.string ⟨#[a, b, c]⟩) (w.alloc (.cells #[.int .u8 (a.toNat : Int), .int .u8 (b.toNat : Int), .int .u8 (c.toNat : Int)] t)).drew := by
  have hb : Lib.Bytes (w.alloc (.cells #[.int .u8 (a.toNat : Int), .int .u8 (b.toNat : Int), .int .u8 (c.toNat : Int)] t)).drew w.heap.size 0 ⟨#[a, b, c]⟩ := by
    intro i hi
    have hi3 : i < 3 := hi
    rw [Nat.zero_add, (Blk.new w t _).drew.cell]
    match i, hi3 with
    | 0, _ => rfl
    | 1, _ => rfl
    | 2, _ => rfl
  exact Lib.run_convert_whole (P := Tryd.prog) _ 60 5 9 Tryd.underlying60 Tryd.underlying5 Tryd.underlying9 w.heap.size 0 _ hb cap
set_option maxHeartbeats 6400000 in
set_option maxRecDepth 100000 in
theorem text_0 (g n mb m : Nat) (l : List UInt8) (D : DataW Unit) (i j : Nat) (w : World) (ht : Tri w g n mb m l D) (hij : i + j + 1 ≤ n) :
    Calls Tryd.prog 64 #[.pointer (some ⟨g, 0, none⟩), .agg #[.int .i64 0, .int .i64 (i : Nat), .int .i64 (j : Nat)]] w fun e w' => e = .returned (.string ⟨#[colB n l (i) (j), colB n l (i + 1) (j), colB n l (i) (j + 1)]⟩) ∧ Below w.heap.size w w' := by
  have HT := Aside0.mk ht
  have h20 := ht.n20
  have HP := Aside0.mk (fun w => points_0 i j w (by omega) (by omega))
  have HIJ := Aside0.mk hij
  clear ht hij h20
  go_enter Tryd.func64, Tryd.ntmps64
  go_wp2_with fail
  refine (HP.out _).mono ?_
  rintro e w1 ⟨rfl, hb1⟩
  have hb0 : Below w.heap.size w w1 := below_then (below_alloc (Below.refl _ _) _) (by simp) hb1
  have HB := Aside0.mk hb0
  clear hb0 hb1
  go_wp2_with fail
  obtain ⟨gq, hgq⟩ : ∃ gq, w1.heap.size = gq := ⟨_, rfl⟩
  have hb2 : Below w1.heap.size w1 (w1.alloc (.cells #[.int .i64 (i : Nat), .int .i64 (j : Nat), .int .i64 ((i : Int) + 1), .int .i64 (j : Nat), .int .i64 (i : Nat), .int .i64 ((j : Int) + 1)] 118)) := below_alloc (Below.refl _ _) _
  have HQ := Aside0.mk (Blk.new w1 118 #[.int .i64 (i : Nat), .int .i64 (j : Nat), .int .i64 ((i : Int) + 1), .int .i64 (j : Nat), .int .i64 (i : Nat), .int .i64 ((j : Int) + 1)])
  have HB2 := Aside0.mk (below_then HB.out HB.out.size hb2)
  rw [hgq] at HQ ⊢
  clear hb2 HB
  generalize w1.alloc (.cells #[.int .i64 (i : Nat), .int .i64 (j : Nat), .int .i64 ((i : Int) + 1), .int .i64 (j : Nat), .int .i64 (i : Nat), .int .i64 ((j : Int) + 1)] 118) = W at *
  have ht2 := HT.out.later HB2.out
  have ht3 : Tri W.drew g n mb m l D := ht2.later (below_drew (Below.refl _ _))
  have HT3 := Aside0.mk ht3
  have HBd := Aside0.mk (show Below w.heap.size w W.drew from HB2.out.trans (below_drew (Below.refl _ _)))
  have e1 : W.drew.cell? ⟨g, 1, none⟩ = some (.map (some mb)) := ht3.hd.cell 1
  have c0 : W.drew.cell? ⟨gq, 0, none⟩ = some (.int .i64 (i : Nat)) := HQ.out.drew.cell 0
  have c1 : W.drew.cell? ⟨gq, 1, none⟩ = some (.int .i64 (j : Nat)) := HQ.out.drew.cell 1
  have c2 : W.drew.cell? ⟨gq, 2, none⟩ = some (.int .i64 ((i : Int) + 1)) := HQ.out.drew.cell 2
  have c3 : W.drew.cell? ⟨gq, 3, none⟩ = some (.int .i64 (j : Nat)) := HQ.out.drew.cell 3
  have c4 : W.drew.cell? ⟨gq, 4, none⟩ = some (.int .i64 (i : Nat)) := HQ.out.drew.cell 4
  have c5 : W.drew.cell? ⟨gq, 5, none⟩ = some (.int .i64 ((j : Int) + 1)) := HQ.out.drew.cell 5
  have l0 := tri_look ht3 (a := i) (b := j) (by have := HIJ.out; omega)
  have l1 := tri_look ht3 (a := i + 1) (b := j) (by have := HIJ.out; omega)
  have l2 := tri_look ht3 (a := i) (b := j + 1) (by have := HIJ.out; omega)
  push_cast at l0 l1 l2
  clear ht2 ht3
  have hcv := conv3
  obtain ⟨x0, hx0⟩ : ∃ x, colB n l (i) (j) = x := ⟨_, rfl⟩
  rw [hx0] at l0
  have HX0 := Aside0.mk hx0
  clear hx0
  obtain ⟨x1, hx1⟩ : ∃ x, colB n l (i + 1) (j) = x := ⟨_, rfl⟩
  rw [hx1] at l1
  have HX1 := Aside0.mk hx1
  clear hx1
  obtain ⟨x2, hx2⟩ : ∃ x, colB n l (i) (j + 1) = x := ⟨_, rfl⟩
  rw [hx2] at l2
  have HX2 := Aside0.mk hx2
  clear hx2
  go_still_tail 21, (by kernel_rfl)
  go_wp2_with fail
  go_ret
  exact ⟨by rw [HX0.out, HX1.out, HX2.out]; rfl, below_drew (below_alloc HB2.out _)⟩
set_option maxHeartbeats 6400000 in
set_option maxRecDepth 100000 in
theorem text_1 (g n mb m : Nat) (l : List UInt8) (D : DataW Unit) (i j : Nat) (w : World) (ht : Tri w g n mb m l D) (hij : i + j + 2 ≤ n) :
    Calls Tryd.prog 64 #[.pointer (some ⟨g, 0, none⟩), .agg #[.int .i64 1, .int .i64 (i : Nat), .int .i64 (j : Nat)]] w fun e w' => e = .returned (.string ⟨#[colB n l (i + 1) (j), colB n l (i) (j + 1), colB n l (i + 1) (j + 1)]⟩) ∧ Below w.heap.size w w' := by
  have HT := Aside0.mk ht
  have h20 := ht.n20
  have HP := Aside0.mk (fun w => points_1 i j w (by omega) (by omega))
  have HIJ := Aside0.mk hij
  clear ht hij h20
  go_enter Tryd.func64, Tryd.ntmps64
  go_wp2_with fail
  refine (HP.out _).mono ?_
  rintro e w1 ⟨rfl, hb1⟩
  have hb0 : Below w.heap.size w w1 := below_then (below_alloc (Below.refl _ _) _) (by simp) hb1
  have HB := Aside0.mk hb0
  clear hb0 hb1
  go_wp2_with fail
  obtain ⟨gq, hgq⟩ : ∃ gq, w1.heap.size = gq := ⟨_, rfl⟩
  have hb2 : Below w1.heap.size w1 (w1.alloc (.cells #[.int .i64 ((i : Int) + 1), .int .i64 (j : Nat), .int .i64 (i : Nat), .int .i64 ((j : Int) + 1), .int .i64 ((i : Int) + 1), .int .i64 ((j : Int) + 1)] 118)) := below_alloc (Below.refl _ _) _
  have HQ := Aside0.mk (Blk.new w1 118 #[.int .i64 ((i : Int) + 1), .int .i64 (j : Nat), .int .i64 (i : Nat), .int .i64 ((j : Int) + 1), .int .i64 ((i : Int) + 1), .int .i64 ((j : Int) + 1)])
  have HB2 := Aside0.mk (below_then HB.out HB.out.size hb2)
  rw [hgq] at HQ ⊢
  clear hb2 HB
  generalize w1.alloc (.cells #[.int .i64 ((i : Int) + 1), .int .i64 (j : Nat), .int .i64 (i : Nat), .int .i64 ((j : Int) + 1), .int .i64 ((i : Int) + 1), .int .i64 ((j : Int) + 1)] 118) = W at *
  have ht2 := HT.out.later HB2.out
  have ht3 : Tri W.drew g n mb m l D := ht2.later (below_drew (Below.refl _ _))
  have HT3 := Aside0.mk ht3
  have HBd := Aside0.mk (show Below w.heap.size w W.drew from HB2.out.trans (below_drew (Below.refl _ _)))
  have e1 : W.drew.cell? ⟨g, 1, none⟩ = some (.map (some mb)) := ht3.hd.cell 1
  have c0 : W.drew.cell? ⟨gq, 0, none⟩ = some (.int .i64 ((i : Int) + 1)) := HQ.out.drew.cell 0
  have c1 : W.drew.cell? ⟨gq, 1, none⟩ = some (.int .i64 (j : Nat)) := HQ.out.drew.cell 1
  have c2 : W.drew.cell? ⟨gq, 2, none⟩ = some (.int .i64 (i : Nat)) := HQ.out.drew.cell 2
  have c3 : W.drew.cell? ⟨gq, 3, none⟩ = some (.int .i64 ((j : Int) + 1)) := HQ.out.drew.cell 3
  have c4 : W.drew.cell? ⟨gq, 4, none⟩ = some (.int .i64 ((i : Int) + 1)) := HQ.out.drew.cell 4
  have c5 : W.drew.cell? ⟨gq, 5, none⟩ = some (.int .i64 ((j : Int) + 1)) := HQ.out.drew.cell 5
  have l0 := tri_look ht3 (a := i + 1) (b := j) (by have := HIJ.out; omega)
  have l1 := tri_look ht3 (a := i) (b := j + 1) (by have := HIJ.out; omega)
  have l2 := tri_look ht3 (a := i + 1) (b := j + 1) (by have := HIJ.out; omega)
  push_cast at l0 l1 l2
  clear ht2 ht3
  have hcv := conv3
  obtain ⟨x0, hx0⟩ : ∃ x, colB n l (i + 1) (j) = x := ⟨_, rfl⟩
  rw [hx0] at l0
  have HX0 := Aside0.mk hx0
  clear hx0
  obtain ⟨x1, hx1⟩ : ∃ x, colB n l (i) (j + 1) = x := ⟨_, rfl⟩
  rw [hx1] at l1
  have HX1 := Aside0.mk hx1
  clear hx1
  obtain ⟨x2, hx2⟩ : ∃ x, colB n l (i + 1) (j + 1) = x := ⟨_, rfl⟩
  rw [hx2] at l2
  have HX2 := Aside0.mk hx2
  clear hx2
  go_still_tail 21, (by kernel_rfl)
  go_wp2_with fail
  go_ret
  exact ⟨by rw [HX0.out, HX1.out, HX2.out]; rfl, below_drew (below_alloc HB2.out _)⟩
end Go.Proofs.YtlmgkmmdaecpdaaDoor.Im

namespace Go.Proofs.YtlmgkmmdaecpdaaDoor.Im
open Go.RowKit Go.Proofs.YtlmgkmmdaecpdaaDoorW.PrintWords Go.Proofs.YtlmgkmmdaecpdaaDoorW.PrintLast Go.Proofs.YtlmgkmmdaecpdaaDoorW.PrintMore Go.Proofs.YtlmgkmmdaecpdaaDoor.Mi
set_option linter.unusedVariables false
set_option linter.unusedSimpArgs false
def txtB (n : Nat) (l : List UInt8) (k i j : Nat) : ByteArray := if k = 0 then ⟨#[colB n l i j, colB n l (i + 1) j, colB n l i (j + 1)]⟩ else ⟨#[colB n l (i + 1) j, colB n l i (j + 1), colB n l (i + 1) (j + 1)]⟩
theorem text_any (g n mb m : Nat) (l : List UInt8) (D : DataW Unit) (k i j : Nat) (w : World) (ht : Tri w g n mb m l D) (hk : k ≤ 1) (hij : i + j + k + 1 ≤ n) :
    Calls Tryd.prog 64 #[.pointer (some ⟨g, 0, none⟩), .agg #[.int .i64 (k : Nat), .int .i64 (i : Nat), .int .i64 (j : Nat)]] w fun e w' => e = .returned (.string (txtB n l k i j)) ∧ Below w.heap.size w w' := by
  rcases (show k = 0 ∨ k = 1 by omega) with rfl | rfl
  · exact text_0 g n mb m l D i j w ht (by omega)
  · exact text_1 g n mb m l D i j w ht (by omega)
def hasB (s : ByteArray) (c : UInt8) : Bool := decide (0 ≤ Lib.indexByte s.data.toList c)
def fulB (s : ByteArray) : Bool := hasB s 48 && hasB s 49 && hasB s 50
theorem contains_one (s : ByteArray) (c : UInt8) (w : World) : Calls Tryd.prog 63 #[.string s, .string ⟨#[c]⟩] w fun e w' => e = .returned (.bool (hasB s c)) ∧ w' = w := Tryd.strings_Contains_one s c w
set_option maxHeartbeats 6400000 in
set_option maxRecDepth 100000 in
theorem full_any (g n mb m : Nat) (l : List UInt8) (D : DataW Unit) (k i j : Nat) (w : World) (ht : Tri w g n mb m l D) (hk : k ≤ 1) (hij : i + j + k + 1 ≤ n) :
    Calls Tryd.prog 60 #[.pointer (some ⟨g, 0, none⟩), .agg #[.int .i64 (k : Nat), .int .i64 (i : Nat), .int .i64 (j : Nat)]] w fun e w' => e = .returned (.bool (fulB (txtB n l k i j))) ∧ Below w.heap.size w w' := by
  have HT := Aside0.mk (fun w1 (hb : Below w.heap.size w w1) => text_any g n mb m l D k i j w1 (ht.later hb) hk hij)
  have H0 := Aside0.mk (contains_one (txtB n l k i j) 48)
  have H1 := Aside0.mk (contains_one (txtB n l k i j) 49)
  have H2 := Aside0.mk (contains_one (txtB n l k i j) 50)
  unfold fulB
  clear ht hk hij
  generalize txtB n l k i j = s at *
  obtain ⟨b0, e0⟩ : ∃ b, hasB s 48 = b := ⟨_, rfl⟩
  obtain ⟨b1, e1⟩ : ∃ b, hasB s 49 = b := ⟨_, rfl⟩
  obtain ⟨b2, e2⟩ : ∃ b, hasB s 50 = b := ⟨_, rfl⟩
  rw [e0] at H0
  rw [e1] at H1
  rw [e2] at H2
  have E0 := Aside0.mk e0
  have E1 := Aside0.mk e1
  have E2 := Aside0.mk e2
  clear e0 e1 e2
  cases b0
  · go_enter Tryd.func60, Tryd.ntmps60
    go_wp2_with fail
    refine (HT.out _ (below_alloc (Below.refl _ _) _)).mono ?_
    rintro e w1 ⟨rfl, hb1⟩
    have HB := Aside0.mk (below_then (below_alloc (Below.refl _ _) _) (by simp) hb1)
    clear hb1
    go_wp2_with fail
    refine (H0.out _).mono ?_
    rintro e w2 ⟨rfl, rfl⟩
    go_wp2_with fail
    go_ret
    exact ⟨by rw [E0.out, E1.out, E2.out]; simp, HB.out⟩
  · cases b1
    · go_enter Tryd.func60, Tryd.ntmps60
      go_wp2_with fail
      refine (HT.out _ (below_alloc (Below.refl _ _) _)).mono ?_
      rintro e w1 ⟨rfl, hb1⟩
      have HB := Aside0.mk (below_then (below_alloc (Below.refl _ _) _) (by simp) hb1)
      clear hb1
      go_wp2_with fail
      refine (H0.out _).mono ?_
      rintro e w2 ⟨rfl, rfl⟩
      go_wp2_with fail
      refine (H1.out _).mono ?_
      rintro e w2 ⟨rfl, rfl⟩
      go_wp2_with fail
      go_ret
      exact ⟨by rw [E0.out, E1.out, E2.out]; simp, HB.out⟩
    · go_enter Tryd.func60, Tryd.ntmps60
      go_wp2_with fail
      refine (HT.out _ (below_alloc (Below.refl _ _) _)).mono ?_
      rintro e w1 ⟨rfl, hb1⟩
      have HB := Aside0.mk (below_then (below_alloc (Below.refl _ _) _) (by simp) hb1)
      clear hb1
      go_wp2_with fail
      refine (H0.out _).mono ?_
      rintro e w2 ⟨rfl, rfl⟩
      go_wp2_with fail
      refine (H1.out _).mono ?_
      rintro e w2 ⟨rfl, rfl⟩
      go_wp2_with fail
      refine (H2.out _).mono ?_
      rintro e w2 ⟨rfl, rfl⟩
      go_wp2_with fail
      go_ret
      exact ⟨by rw [E0.out, E1.out, E2.out]; simp, HB.out⟩
end Go.Proofs.YtlmgkmmdaecpdaaDoor.Im

namespace Go.Proofs.YtlmgkmmdaecpdaaDoor.Im
open Go.RowKit Go.Proofs.YtlmgkmmdaecpdaaDoorW.PrintWords Go.Proofs.YtlmgkmmdaecpdaaDoorW.PrintLast Go.Proofs.YtlmgkmmdaecpdaaDoorW.PrintMore Go.Proofs.YtlmgkmmdaecpdaaDoor.Mi
set_option linter.unusedVariables false
set_option linter.unusedSimpArgs false
theorem info81' : (Tryd.prog.info? 81).map (fun i => (i.zero, i.size, i.bytes)) = some (some (.agg #[(.int .i64 0), (.int .i64 0), (.int .i64 0)]), 3, 24) := by kernel_rfl
def cel (k i j : Nat) : S77 := ⟨(k : Int), (i : Int), (j : Int)⟩
def celR (k i m : Nat) : List S77 := (List.range m).map (cel k i)
def celI (n k m : Nat) : List S77 := (List.range m).flatMap fun i => celR k i (n - k - i)
def celK (n m : Nat) : List S77 := (List.range m).flatMap fun k => celI n k (n - k)
def cellsL (n : Nat) : List S77 := celK n 2
theorem celR_succ (k i m : Nat) : celR k i (m + 1) = celR k i m ++ [cel k i m] := by unfold celR; rw [List.range_succ, List.map_append]; rfl
theorem celI_succ (n k m : Nat) : celI n k (m + 1) = celI n k m ++ celR k m (n - k - m) := by unfold celI; rw [List.range_succ, List.flatMap_append]; simp
theorem celK_succ (n m : Nat) : celK n (m + 1) = celK n m ++ celI n m (n - m) := by unfold celK; rw [List.range_succ, List.flatMap_append]; simp
theorem celR_len (k i m : Nat) : (celR k i m).length = m := by unfold celR; simp
theorem celI_len {n : Nat} (hn : n ≤ 20) (k : Nat) : ∀ m, (celI n k m).length ≤ m * 20
  | 0 => by simp [celI]
  | m + 1 => by
    rw [celI_succ, List.length_append, celR_len]
    have := celI_len hn k m
    omega
theorem celK_len {n : Nat} (hn : n ≤ 20) : ∀ m, (celK n m).length ≤ m * 400
  | 0 => by simp [celK]
  | m + 1 => by
    rw [celK_succ, List.length_append]
    have := celK_len hn m
    have := celI_len hn m (n - m)
    omega
theorem mem_cells {n : Nat} {x : S77} : x ∈ cellsL n ↔ ∃ k i j : Nat, k ≤ 1 ∧ i + j + k + 1 ≤ n ∧ x = cel k i j := by
  unfold cellsL celK celI celR
  simp only [List.mem_flatMap, List.mem_range, List.mem_map]
  constructor
  · rintro ⟨k, hk, i, hi, j, hj, rfl⟩
    exact ⟨k, i, j, by omega, by omega, rfl⟩
  · rintro ⟨k, i, j, h1, h2, rfl⟩
    exact ⟨k, by omega, i, by omega, j, by omega, rfl⟩
set_option maxHeartbeats 6400000 in
set_option maxRecDepth 100000 in
theorem cells_any (g n : Nat) (mv : Value) (w : World) (hg : Blk w g 117 #[.int .i64 n, mv]) (h1 : 1 ≤ n) (h20 : n ≤ 20) :
    Calls Tryd.prog 59 #[.pointer (some ⟨g, 0, none⟩)] w fun e w' => ∃ v, e = .returned v ∧ Kd.R k77 81 w' w.heap.size (fun _ => True) v (cellsL n) ∧ Below w.heap.size w w' := by
  have HG := Aside0.mk hg
  have H20 := Aside0.mk h20
  clear hg
  go_enter Tryd.func59, Tryd.ntmps59
  go_wp2_with fail
  go_loopw [3, 7] (fun v3 v7 wr => ∃ k : Nat, k ≤ 2 ∧ v7 = .int .i64 (k : Int) ∧ Aside0 (Kd.R k77 81 wr w.heap.size (fun _ => True) v3 (celK n k)) ∧ Aside0 (Below w.heap.size w wr)) (fun _ v _ => 2 - (intOf v).toNat)
  case atStart => exact ⟨0, Nat.zero_le _, rfl, ⟨Kd.R_nil _ _ _ _ _⟩, ⟨Below.refl _ _⟩⟩
  case round =>
    obtain ⟨k, hk, rfl, HR, HB⟩ := hrel
    by_cases hk2 : k < 2
    · have hdk : decide ((k : Int) < 2) = true := decide_eq_true (by omega)
      have cg : wr.cell? ⟨g, 0, none⟩ = some (.int .i64 (n : Nat)) := (HG.out.later HB.out).cell 0
      go_wp2_with fail
      go_loopw [3, 16] (fun v3 v16 wr => ∃ i : Nat, i ≤ n - k ∧ v16 = .int .i64 (i : Int) ∧ Aside0 (Kd.R k77 81 wr w.heap.size (fun _ => True) v3 (celK n k ++ celI n k i)) ∧ Aside0 (Below w.heap.size w wr)) (fun _ v _ => n - k - (intOf v).toNat)
      case atStart => exact ⟨0, Nat.zero_le _, rfl, ⟨by rw [show celI n k 0 = [] from rfl, List.append_nil]; exact HR.out⟩, HB⟩
      case round =>
        clear HR HB cg
        obtain ⟨i, hi, rfl, HR, HB⟩ := hrel
        by_cases hik : i < n - k
        · have hdi : decide ((i : Int) < (n : Int) - (k : Int)) = true := decide_eq_true (by omega)
          have cg : wr.cell? ⟨g, 0, none⟩ = some (.int .i64 (n : Nat)) := (HG.out.later HB.out).cell 0
          go_wp2_with fail
          go_loopw [3, 27] (fun v3 v27 wr => ∃ j : Nat, j ≤ n - k - i ∧ v27 = .int .i64 (j : Int) ∧ Aside0 (Kd.R k77 81 wr w.heap.size (fun _ => True) v3 (celK n k ++ celI n k i ++ celR k i j)) ∧ Aside0 (Below w.heap.size w wr)) (fun _ v _ => n - k - i - (intOf v).toNat)
          case atStart => exact ⟨0, Nat.zero_le _, rfl, ⟨by rw [show celR k i 0 = [] from rfl, List.append_nil]; exact HR.out⟩, HB⟩
          case round =>
            clear HR HB cg
            obtain ⟨j, hj, rfl, HR, HB⟩ := hrel
            by_cases hjk : j < n - k - i
            · have hlen : (celK n k ++ celI n k i ++ celR k i j).length ≤ 3000 := by
                rw [List.length_append, List.length_append, celR_len]
                have h1 := celK_len (n := n) H20.out k
                have h2 := celI_len (n := n) H20.out k i
                have := H20.out
                omega
              have HL := Aside0.mk hlen
              have hdj : decide ((j : Int) < (n : Int) - (k : Int) - (i : Int)) = true := decide_eq_true (by omega)
              clear hlen
              go_wp2_with (first | ((with_reducible refine gate_builtin (b := .append) (xs := #[.tmp 30, .tmp 35]) rfl ?_); at_builtin; refine Kd.R_append k77 (w0 := w) w.heap.size rfl (.tmp 30) (.tmp 35) 78 81 (.agg #[(.int .i64 0), (.int .i64 0), (.int .i64 0)]) 24 rfl Tryd.underlying78 info81' rfl (by decide) (by omega) u3 (celK n k ++ celI n k i ++ celR k i j) (cel k i j) [.int .i64 (k : Nat), .int .i64 (i : Nat), .int .i64 (j : Nat)] (fun _ => True) (fun _ => False) rfl rfl (k77_mkM _ _ _ (cel k i j)) (fun _ hk => hk.elim) (fun _ _ => trivial) ?aO ?aB ?aS ?aL ?_; (case aO => (with_reducible repeat (first | apply Kd.R_alloc | apply Kd.R_drewN | apply Kd.R_drew)); exact HR.out); (case aB => (repeat (first | (with_reducible first | exact HB.out | apply below_alloc | apply pw_below_drewN | apply below_drew1) | exact HB.out))); (case aS => exact below_size (by repeat (first | (with_reducible first | exact HB.out | apply below_alloc | apply pw_below_drewN | apply below_drew1) | exact HB.out))); (case aL => have := HL.out; omega); intro v9 w9 ho hb hg hat; have HO9 := Aside0.mk ho; have HB9 := Aside0.mk hb; clear ho hb hg hat))
              go_roundw
              case rel => exact ⟨j + 1, by omega, by go_num, ⟨by rw [celR_succ, ← List.append_assoc]; exact HO9.out⟩, HB9⟩
              case measure => simp [intOf]; omega
            · obtain rfl : j = n - k - i := by omega
              have hR := HR.out
              rw [List.append_assoc, ← celI_succ] at hR
              have HR2 := Aside0.mk hR
              have hdj : decide (((n - k - i : Nat) : Int) < (n : Int) - (k : Int) - (i : Int)) = false := decide_eq_false (by omega)
              clear hR
              go_wp2_with fail
              go_roundw
              case rel => exact ⟨i + 1, hik, by go_num, HR2, HB⟩
              case measure => simp [intOf]; omega
        · obtain rfl : i = n - k := by omega
          have hR := HR.out
          rw [← celK_succ] at hR
          have HR2 := Aside0.mk hR
          have hdi : decide (((n - k : Nat) : Int) < (n : Int) - (k : Int)) = false := decide_eq_false (by omega)
          clear hR
          go_wp2_with fail
          go_roundw
          case rel => exact ⟨k + 1, by omega, by go_num, HR2, HB⟩
          case measure => simp [intOf]; omega
    · obtain rfl : k = 2 := by omega
      go_wp2_with fail
      go_ret
      exact ⟨_, rfl, HR.out, HB.out⟩
end Go.Proofs.YtlmgkmmdaecpdaaDoor.Im

namespace Go.Proofs.YtlmgkmmdaecpdaaDoor.Im
open Go.RowKit Go.Proofs.YtlmgkmmdaecpdaaDoorW.PrintWords Go.Proofs.YtlmgkmmdaecpdaaDoorW.PrintLast Go.Proofs.YtlmgkmmdaecpdaaDoorW.PrintMore Go.Proofs.YtlmgkmmdaecpdaaDoor.Mi
set_option linter.unusedVariables false
set_option linter.unusedSimpArgs false
def fulC (n : Nat) (l : List UInt8) (x : S77) : Bool := fulB (txtB n l x.f0.toNat x.f1.toNat x.f2.toNat)
def cel3 (x : S77) : List Int := [x.f0, x.f1, x.f2]
def fulL (n : Nat) (l : List UInt8) : List (List Int) := ((cellsL n).filter (fulC n l)).map cel3
def fulT (n : Nat) (l : List UInt8) (q : Nat) : List (List Int) := (((cellsL n).take q).filter (fulC n l)).map cel3
theorem fulT_succ (n : Nat) (l : List UInt8) {q : Nat} (h : q < (cellsL n).length) : fulT n l (q + 1) = fulT n l q ++ (if fulC n l (cellsL n)[q] = true then [cel3 (cellsL n)[q]] else []) := by
  unfold fulT
  rw [List.take_succ_eq_append_getElem h, List.filter_append, List.map_append]
  congr 1
  by_cases hc : fulC n l (cellsL n)[q] = true
  · rw [if_pos hc, List.filter_cons_of_pos hc]; rfl
  · rw [if_neg hc, List.filter_cons_of_neg hc]; rfl
theorem fulT_all (n : Nat) (l : List UInt8) : fulT n l (cellsL n).length = fulL n l := by unfold fulT fulL; rw [List.take_length]
theorem clone_any (gc : Nat) (t : TypeId) (a b c : Int) (w : World) (h : Blk w gc t #[.int .i64 a, .int .i64 b, .int .i64 c]) :
    Calls Tryd.prog 61 #[.slice (some ⟨gc, 0, none⟩) 3 3] w fun e w' => ∃ v', e = .returned v' ∧ Kd.R (Kd.int .i64) 3 w' w.heap.size (fun q => w.heap.size ≤ q) v' [a, b, c] ∧ Below w.heap.size w w' := by
  refine (Tryd.slices_Clone_int gc 0 3 3 [a, b, c] w (by simp) (by omega) (fun j hj => ?_)).mono ?_
  · rw [Nat.zero_add, h.cell]
    have hj3 : j < 3 := hj
    match j, hj3 with
    | 0, _ => rfl
    | 1, _ => rfl
    | 2, _ => rfl
  · rintro e w' ⟨v', rfl, ho, _, hb⟩
    refine ⟨v', rfl, Kd.R_of_own ?_ (fun k hk => (World.ownsRow.lt ho k hk).1), hb⟩
    have e1 : encs (Value.int .i64) [a, b, c] = ([a, b, c].take 3).map (Value.int .i64) := by simp [encs]
    rw [e1]
    exact ho
theorem infoII : (Tryd.prog.info? 34).map (fun i => (i.zero, i.size, i.bytes)) = some (some (.slice none 0 0), 1, 24) := by kernel_rfl
theorem fulT_len (n : Nat) (l : List UInt8) (q : Nat) : (fulT n l q).length ≤ (cellsL n).length := by
  unfold fulT
  rw [List.length_map]
  exact Nat.le_trans (List.length_filter_le _ _) (by rw [List.length_take]; omega)
def FullPost (n : Int) (s : ByteArray) (w : World) (e : Ending) (w' : World) : Prop :=
  Below w.heap.size w w' ∧ if triE n s = 0 then ∃ v, e = .returned (.tuple #[v, .int .i64 0]) ∧ Kd.R (Kd.slice 3 (Kd.int .i64)) 34 w' w.heap.size (fun _ => True) v (fulL n.toNat s.data.toList)
    else e = .returned (.tuple #[.slice none 0 0, .int .i64 (triE n s)])
set_option maxHeartbeats 6400000 in
set_option maxRecDepth 100000 in
theorem full_bad (n : Int) (s : ByteArray) (w : World) (hs : s.size ≤ 9223372036854775807) (hE : triE n s ≠ 0) :
    Calls Tryd.prog 28 #[.int .i64 n, .string s] w (FullPost n s w) := by
  have HO := Aside0.mk (of_any n s w hs)
  have HP : Aside0 (∀ w', Below w.heap.size w w' → FullPost n s w (.returned (.tuple #[.slice none 0 0, .int .i64 (triE n s)])) w') := ⟨fun w' hb => ⟨hb, by rw [if_neg hE]⟩⟩
  have HQ := Aside0.mk (fun e w2 (h : OfPost n s w e w2) => (show e = .returned (.tuple #[.pointer none, .int .i64 (triE n s)]) ∧ Below w.heap.size w w2 by
    unfold OfPost at h
    rw [if_neg hE] at h
    exact ⟨h.2, h.1⟩))
  have hz : (triE n s == 0) = false := beq_eq_false_iff_ne.2 hE
  clear hE
  generalize triE n s = z at *
  go_enter Tryd.func28, Tryd.ntmps28
  go_wp2_with fail
  refine HO.out.mono ?_
  intro e w1 h1
  obtain ⟨rfl, hb1⟩ := HQ.out _ _ h1
  have HB := Aside0.mk hb1
  clear h1 hb1
  go_wp2_with fail
  go_ret2
  exact HP.out _ HB.out
end Go.Proofs.YtlmgkmmdaecpdaaDoor.Im

namespace Go.Proofs.YtlmgkmmdaecpdaaDoor.Im
open Go.RowKit Go.Proofs.YtlmgkmmdaecpdaaDoorW.PrintWords Go.Proofs.YtlmgkmmdaecpdaaDoorW.PrintLast Go.Proofs.YtlmgkmmdaecpdaaDoorW.PrintMore Go.Proofs.YtlmgkmmdaecpdaaDoor.Mi
set_option linter.unusedVariables false
set_option linter.unusedSimpArgs false
set_option maxHeartbeats 6400000 in
set_option maxRecDepth 100000 in
theorem full_good (n : Int) (s : ByteArray) (w : World) (hs : s.size ≤ 9223372036854775807) (hE : triE n s = 0) :
    Calls Tryd.prog 28 #[.int .i64 n, .string s] w (FullPost n s w) := by
  have HO := Aside0.mk (of_any n s w hs)
  have HE := Aside0.mk hE
  clear hE
  obtain ⟨l, hl⟩ : ∃ l, s.data.toList = l := ⟨_, rfl⟩
  have HLs := Aside0.mk hl
  clear hl
  go_enter Tryd.func28, Tryd.ntmps28
  go_wp2_with fail
  refine HO.out.mono ?_
  rintro e w1 ⟨hb1, h1⟩
  rw [if_pos HE.out] at h1
  obtain ⟨g, mb, m, D, rfl, ht, _, _⟩ := h1
  have hn1 := ht.n1
  obtain ⟨N, rfl⟩ : ∃ N : Nat, n = N := ⟨n.toNat, by omega⟩
  rw [Int.toNat_natCast, HLs.out] at ht
  have HT := Aside0.mk ht
  have HB := Aside0.mk hb1
  have h20 := ht.n20
  rw [Int.toNat_natCast] at hn1
  have HCe := Aside0.mk (cells_any g N (.map (some mb)) w1 ht.hd hn1 h20)
  clear ht hb1 h20 HO
  go_wp2_with fail
  refine HCe.out.mono ?_
  rintro e w2 ⟨v, rfl, hR, hb2⟩
  obtain ⟨A, c, rfl, hl, hC⟩ := Kd.R_reads hR
  have HC := Aside0.mk hC
  have HB2 := Aside0.mk (below_then HB.out HB.out.size hb2)
  have HT2 := Aside0.mk (HT.out.later hb2)
  have hlen : (cellsL N).length ≤ 800 := by have := celK_len (n := N) HT.out.n20 2; unfold cellsL; omega
  clear hC hb2 hR HT HB HCe
  obtain ⟨Q, hQ⟩ : ∃ Q, (cellsL N).length = Q := ⟨_, rfl⟩
  rw [hQ] at HC hl hlen ⊢
  have HQ := Aside0.mk hQ
  clear hQ
  go_wp2_with fail
  go_loopw [8, 23] (fun v8 v23 wr => ∃ q : Nat, q ≤ Q ∧ v23 = .int .i64 (q : Int) ∧ Aside0 (Kd.R (Kd.slice 3 (Kd.int .i64)) 34 wr w2.heap.size (fun _ => True) v8 (fulT N l q)) ∧ Aside0 (Below w2.heap.size w2 wr)) (fun _ v _ => Q - (intOf v).toNat)
  case atStart => exact ⟨0, Nat.zero_le _, rfl, ⟨Kd.R_nil _ _ _ _ _⟩, ⟨Below.refl _ _⟩⟩
  case round =>
    obtain ⟨q, hq, rfl, HR, HBr⟩ := hrel
    by_cases hqQ : q < Q
    · have q0 : (0 : Int) ≤ (q : Int) := Int.natCast_nonneg q
      have q1 : (q : Int) < (Q : Int) := Int.ofNat_lt.2 hqQ
      obtain ⟨ad, rfl, c0, c1, c2⟩ := at_T77 (Kd.C_below HC.out HBr.out) (q : Int) q0 q1
      rw [Int.toNat_natCast] at c0 c1 c2
      have hlt : q < (cellsL N).length := by rw [HQ.out]; exact hqQ
      have hrd : rd_T77 (cellsL N) (q : Int) = (cellsL N)[q] := by
        unfold rd_T77
        rw [Int.toNat_natCast, List.getD_eq_getElem?_getD, List.getElem?_eq_getElem hlt]; rfl
      obtain ⟨k, i, j, hk, hij, hx⟩ := mem_cells.1 (List.getElem_mem hlt)
      rw [hrd, hx] at c0 c1 c2
      change wr.cell? (ad.add (q * 3)) = some (.int .i64 (k : Int)) at c0
      change wr.cell? ⟨(ad.add (q * 3)).block, (ad.add (q * 3)).off + 1, none⟩ = some (.int .i64 (i : Int)) at c1
      change wr.cell? ⟨(ad.add (q * 3)).block, (ad.add (q * 3)).off + 2, none⟩ = some (.int .i64 (j : Int)) at c2
      have hsuc := fulT_succ N l hlt
      rw [hx] at hsuc
      have HSuc := Aside0.mk hsuc
      clear hsuc hrd hx hlt
      go_wp2_with fail
      have hbn : Below wr.heap.size wr (wr.alloc (.cells #[.int .i64 (k : Nat), .int .i64 (i : Nat), .int .i64 (j : Nat)] 81)) := below_alloc (Below.refl _ _) _
      have HN := Aside0.mk (Blk.new wr 81 #[.int .i64 (k : Nat), .int .i64 (i : Nat), .int .i64 (j : Nat)])
      have HF := Aside0.mk (full_any g N mb m l D k i j _ ((HT2.out.later HBr.out).later hbn) hk hij)
      have HB3 := Aside0.mk (below_then HBr.out HBr.out.size hbn)
      have hfc : fulC N l (cel k i j) = fulB (txtB N l k i j) := rfl
      rw [hfc] at HSuc
      have HBn := Aside0.mk hbn
      clear hbn hfc c0 c1 c2
      obtain ⟨bb, hbb⟩ : ∃ bb, fulB (txtB N l k i j) = bb := ⟨_, rfl⟩
      rw [hbb] at HF HSuc
      clear hbb
      refine HF.out.mono ?_
      rintro e w3 ⟨rfl, hb3⟩
      have HB4 := Aside0.mk (below_then HB3.out HB3.out.size hb3)
      have HN3 := Aside0.mk (HN.out.later hb3)
      obtain ⟨gc, hgc⟩ : ∃ gc, wr.heap.size = gc := ⟨_, rfl⟩
      rw [hgc] at HN3 ⊢
      have HRb := Aside0.mk (Kd.R_below HR.out (show Below wr.heap.size wr w3 from below_then HBn.out HBn.out.size hb3))
      clear hb3 HF HN HB3
      cases bb with
      | false =>
        have hS := HSuc.out
        rw [if_neg (by simp), List.append_nil] at hS
        have HS := Aside0.mk hS
        clear hS
        go_wp2_with fail
        go_roundw
        case rel => exact ⟨q + 1, hqQ, by go_num, ⟨by rw [HS.out]; exact HRb.out⟩, HB4⟩
        case measure => simp [intOf]; omega
      | true =>
        have hS := HSuc.out
        rw [if_pos rfl] at hS
        have HS := Aside0.mk hS
        have HCl := Aside0.mk (clone_any gc 81 _ _ _ w3 HN3.out)
        clear hS
        go_wp2_with fail
        refine HCl.out.mono ?_
        rintro e w4 ⟨vc, rfl, hRc, hb4⟩
        have HRR := Aside0.mk (Kd.R_bound HRb.out)
        have HR4 := Aside0.mk (Kd.R_below HRb.out hb4)
        have HB5 := Aside0.mk (below_then HB2.out HB2.out.size (below_then HB4.out HB4.out.size hb4))
        have HB6 := Aside0.mk (below_then HB4.out HB4.out.size hb4)
        have hw3 : w2.heap.size ≤ w3.heap.size := HB4.out.size
        obtain ⟨G, cG, hv, _⟩ := Kd.R_form hRc (by simp)
        replace hv : vc = .slice (some ⟨G, 0, none⟩) 3 cG := hv
        subst hv
        have HRc := Aside0.mk (Kd.R_lower hRc hw3)
        have HLN : Aside0 ((fulT N l q).length ≤ 800) := ⟨Nat.le_trans (fulT_len N l q) (by rw [HQ.out]; exact hlen)⟩
        clear hRc hb4 hw3
        go_wp2_with (first | ((with_reducible refine gate_builtin (b := .append) (xs := #[.tmp 30, .tmp 33]) rfl ?_); at_builtin; refine Kd.R_append (Kd.slice 3 (Kd.int .i64)) (w0 := w2) w2.heap.size rfl (.tmp 30) (.tmp 33) 40 34 (.slice none 0 0) 24 rfl Tryd.underlying40 infoII rfl (by decide) (by omega) _ (fulT N l q) (cel3 (cel k i j)) [.slice (some ⟨G, 0, none⟩) 3 cG] (fun _ => True) (fun q => w3.heap.size ≤ q) rfl rfl ?aP ?aK ?aF ?aO ?aB ?aS ?aL ?_; (case aP => exact ⟨_, rfl, HRc.out⟩); (case aK => exact (fun q hq => ⟨trivial, fun he => by have := (HRR.out.1 q he.symm).2.2.1; omega⟩)); (case aF => exact (fun k hk => trivial)); (case aO => exact HR4.out); (case aB => exact HB6.out); (case aS => exact HB6.out.size); (case aL => have := HLN.out; omega); intro v9 w9 ho hb hg hat; rw [← HS.out] at ho; have HR9 := Aside0.mk ho; have HB9 := Aside0.mk hb; clear ho hb hg hat))
        go_roundw
        case rel => exact ⟨q + 1, hqQ, by go_num, HR9, HB9⟩
        case measure => simp [intOf]; omega
    · obtain rfl : q = Q := by omega
      have hR := HR.out
      rw [← HQ.out, fulT_all] at hR
      have HR2 := Aside0.mk (Kd.R_lower hR HB2.out.size)
      clear hR
      go_wp2_with fail
      go_ret2
      refine ⟨below_then HB2.out HB2.out.size HBr.out, ?_⟩
      rw [if_pos HE.out]
      exact ⟨_, rfl, by rw [Int.toNat_natCast, HLs.out]; exact HR2.out⟩
theorem full_call (n : Int) (s : ByteArray) (w : World) (hs : s.size ≤ 9223372036854775807) : Calls Tryd.prog 28 #[.int .i64 n, .string s] w (FullPost n s w) := by
  by_cases hE : triE n s = 0
  · exact full_good n s w hs hE
  · exact full_bad n s w hs hE
end Go.Proofs.YtlmgkmmdaecpdaaDoor.Im

namespace Go.Proofs.YtlmgkmmdaecpdaaDoor.Im
open Go.RowKit Go.Proofs.YtlmgkmmdaecpdaaDoorW.PrintWords Go.Proofs.YtlmgkmmdaecpdaaDoorW.PrintLast Go.Proofs.YtlmgkmmdaecpdaaDoorW.PrintMore Go.Proofs.YtlmgkmmdaecpdaaDoor.Mi
set_option linter.unusedVariables false
set_option linter.unusedSimpArgs false
def turB (s : ByteArray) (k : Nat) : Bool := Lib.contains [48, 49, 50, 48, 49] s.data.toList == decide (k = 0)
def turC (n : Nat) (l : List UInt8) (x : S77) : Bool := turB (txtB n l x.f0.toNat x.f1.toNat x.f2.toNat) x.f0.toNat
def rigN (n : Nat) (l : List UInt8) (q : Nat) : Nat := ((cellsL n).take q).countP fun x => fulC n l x && turC n l x
def lefN (n : Nat) (l : List UInt8) (q : Nat) : Nat := ((cellsL n).take q).countP fun x => fulC n l x && !turC n l x
def rigL (n : Nat) (l : List UInt8) : Nat := (cellsL n).countP fun x => fulC n l x && turC n l x
def lefL (n : Nat) (l : List UInt8) : Nat := (cellsL n).countP fun x => fulC n l x && !turC n l x
theorem rigN_all (n : Nat) (l : List UInt8) : rigN n l (cellsL n).length = rigL n l := by unfold rigN rigL; rw [List.take_length]
theorem lefN_all (n : Nat) (l : List UInt8) : lefN n l (cellsL n).length = lefL n l := by unfold lefN lefL; rw [List.take_length]
theorem rigN_succ (n : Nat) (l : List UInt8) {q : Nat} (h : q < (cellsL n).length) : rigN n l (q + 1) = rigN n l q + (if (fulC n l (cellsL n)[q] && turC n l (cellsL n)[q]) = true then 1 else 0) := by
  unfold rigN
  rw [List.take_succ_eq_append_getElem h, List.countP_append, List.countP_singleton]
theorem lefN_succ (n : Nat) (l : List UInt8) {q : Nat} (h : q < (cellsL n).length) : lefN n l (q + 1) = lefN n l q + (if (fulC n l (cellsL n)[q] && !turC n l (cellsL n)[q]) = true then 1 else 0) := by
  unfold lefN
  rw [List.take_succ_eq_append_getElem h, List.countP_append, List.countP_singleton]
theorem rigN_le (n : Nat) (l : List UInt8) (q : Nat) : rigN n l q ≤ (cellsL n).length := Nat.le_trans List.countP_le_length (by rw [List.length_take]; omega)
theorem lefN_le (n : Nat) (l : List UInt8) (q : Nat) : lefN n l q ≤ (cellsL n).length := Nat.le_trans List.countP_le_length (by rw [List.length_take]; omega)
def TurnsPost (n : Int) (s : ByteArray) (w : World) (e : Ending) (w' : World) : Prop :=
  Below w.heap.size w w' ∧ e = if triE n s = 0 then .returned (.tuple #[.int .i64 (rigL n.toNat s.data.toList : Nat), .int .i64 (lefL n.toNat s.data.toList : Nat), .int .i64 0])
    else .returned (.tuple #[.int .i64 0, .int .i64 0, .int .i64 (triE n s)])
set_option maxHeartbeats 6400000 in
set_option maxRecDepth 100000 in
theorem turns_good (n : Int) (s : ByteArray) (w : World) (hs : s.size ≤ 9223372036854775807) (hE : triE n s = 0) (mL : Int) (hm : w.cell? ⟨1, 0, none⟩ = some (.int .i64 mL)) :
    Calls Tryd.prog 31 #[.int .i64 n, .string s] w (TurnsPost n s w) := by
  have HO := Aside0.mk (of_any n s w hs)
  have HE := Aside0.mk hE
  have HM := Aside0.mk hm
  clear hE hm
  obtain ⟨l, hl⟩ : ∃ l, s.data.toList = l := ⟨_, rfl⟩
  have HLs := Aside0.mk hl
  clear hl
  go_enter Tryd.func31, Tryd.ntmps31
  go_wp2_with fail
  refine HO.out.mono ?_
  rintro e w1 ⟨hb1, h1⟩
  rw [if_pos HE.out] at h1
  obtain ⟨g, mb, m, D, rfl, ht, _, _⟩ := h1
  have hn1 := ht.n1
  obtain ⟨N, rfl⟩ : ∃ N : Nat, n = N := ⟨n.toNat, by omega⟩
  rw [Int.toNat_natCast, HLs.out] at ht
  have HT := Aside0.mk ht
  have HB := Aside0.mk hb1
  have h20 := ht.n20
  rw [Int.toNat_natCast] at hn1
  have HCe := Aside0.mk (cells_any g N (.map (some mb)) w1 ht.hd hn1 h20)
  clear ht hb1 h20 HO
  go_wp2_with fail
  refine HCe.out.mono ?_
  rintro e w2 ⟨v, rfl, hR, hb2⟩
  obtain ⟨A, c, rfl, hl, hC⟩ := Kd.R_reads hR
  have HC := Aside0.mk hC
  have HB2 := Aside0.mk (below_then HB.out HB.out.size hb2)
  have HT2 := Aside0.mk (HT.out.later hb2)
  have hlen : (cellsL N).length ≤ 800 := by have := celK_len (n := N) HT.out.n20 2; unfold cellsL; omega
  clear hC hb2 hR HT HB HCe
  obtain ⟨Q, hQ⟩ : ∃ Q, (cellsL N).length = Q := ⟨_, rfl⟩
  rw [hQ] at HC hl hlen ⊢
  have HQ := Aside0.mk hQ
  clear hQ
  go_wp2_with fail
  go_loopw [9, 10, 26] (fun v9 v10 v26 wr => ∃ q : Nat, q ≤ Q ∧ v26 = .int .i64 (q : Int) ∧ v9 = .int .i64 (rigN N l q : Nat) ∧ v10 = .int .i64 (lefN N l q : Nat) ∧ Aside0 (Below w2.heap.size w2 wr)) (fun _ _ v _ => Q - (intOf v).toNat)
  case atStart => exact ⟨0, Nat.zero_le _, rfl, rfl, rfl, ⟨Below.refl _ _⟩⟩
  case round =>
    obtain ⟨q, hq, rfl, rfl, rfl, HBr⟩ := hrel
    by_cases hqQ : q < Q
    · have q0 : (0 : Int) ≤ (q : Int) := Int.natCast_nonneg q
      have q1 : (q : Int) < (Q : Int) := Int.ofNat_lt.2 hqQ
      obtain ⟨ad, rfl, c0, c1, c2⟩ := at_T77 (Kd.C_below HC.out HBr.out) (q : Int) q0 q1
      rw [Int.toNat_natCast] at c0 c1 c2
      have hlt : q < (cellsL N).length := by rw [HQ.out]; exact hqQ
      have hrd : rd_T77 (cellsL N) (q : Int) = (cellsL N)[q] := by
        unfold rd_T77
        rw [Int.toNat_natCast, List.getD_eq_getElem?_getD, List.getElem?_eq_getElem hlt]; rfl
      obtain ⟨k, i, j, hk, hij, hx⟩ := mem_cells.1 (List.getElem_mem hlt)
      rw [hrd, hx] at c0 c1 c2
      change wr.cell? (ad.add (q * 3)) = some (.int .i64 (k : Int)) at c0
      change wr.cell? ⟨(ad.add (q * 3)).block, (ad.add (q * 3)).off + 1, none⟩ = some (.int .i64 (i : Int)) at c1
      change wr.cell? ⟨(ad.add (q * 3)).block, (ad.add (q * 3)).off + 2, none⟩ = some (.int .i64 (j : Int)) at c2
      have hsr := rigN_succ N l hlt
      have hsl := lefN_succ N l hlt
      rw [hx] at hsr hsl
      have HSR := Aside0.mk hsr
      have HSL := Aside0.mk hsl
      clear hsr hsl hrd hx hlt
      go_wp2_with fail
      have hbn : Below wr.heap.size wr (wr.alloc (.cells #[.int .i64 (k : Nat), .int .i64 (i : Nat), .int .i64 (j : Nat)] 81)) := below_alloc (Below.refl _ _) _
      have HN := Aside0.mk (Blk.new wr 81 #[.int .i64 (k : Nat), .int .i64 (i : Nat), .int .i64 (j : Nat)])
      have HF := Aside0.mk (full_any g N mb m l D k i j _ ((HT2.out.later HBr.out).later hbn) hk hij)
      have HB3 := Aside0.mk (below_then HBr.out HBr.out.size hbn)
      have hfc : fulC N l (cel k i j) = fulB (txtB N l k i j) := rfl
      rw [hfc] at HSR HSL
      have HBn := Aside0.mk hbn
      clear hbn hfc c0 c1 c2
      obtain ⟨bb, hbb⟩ : ∃ bb, fulB (txtB N l k i j) = bb := ⟨_, rfl⟩
      rw [hbb] at HF HSR HSL
      clear hbb
      refine HF.out.mono ?_
      rintro e w3 ⟨rfl, hb3⟩
      have HT4 := Aside0.mk (HT2.out.later (below_then HB3.out HB3.out.size hb3))
      have HB4 := Aside0.mk (below_then HB3.out HB3.out.size hb3)
      have HN3 := Aside0.mk (HN.out.later hb3)
      obtain ⟨gc, hgc⟩ : ∃ gc, wr.heap.size = gc := ⟨_, rfl⟩
      rw [hgc] at HN3 ⊢
      clear hb3 HF HN HB3
      have lr := rigN_le N l q
      have ll := lefN_le N l q
      rw [HQ.out] at lr ll
      cases bb with
      | false =>
        have hr := HSR.out
        have hl2 := HSL.out
        simp only [Bool.false_and, Bool.false_eq_true, if_false, Nat.add_zero] at hr hl2
        have HR1 := Aside0.mk hr
        have HL1 := Aside0.mk hl2
        clear hr hl2
        go_wp2_with fail
        go_roundw
        case rel => exact ⟨q + 1, hqQ, by go_num, by rw [HR1.out], by rw [HL1.out], HB4⟩
        case measure => simp [intOf]; omega
      | true =>
        have hr := HSR.out
        have hl2 := HSL.out
        simp only [Bool.true_and] at hr hl2
        have htc : turC N l (cel k i j) = turB (txtB N l k i j) k := rfl
        rw [htc] at hr hl2
        unfold turB at hr hl2
        have HTx := Aside0.mk (text_any g N mb m l D k i j w3 HT4.out hk hij)
        have HCn := Aside0.mk (fun w4 h4 => Tryd.strings_Contains ⟨#[48, 49, 50, 48, 49]⟩ (txtB N l k i j) mL w4 (by decide) h4)
        obtain ⟨cb, hcb⟩ : ∃ cb, Lib.contains [48, 49, 50, 48, 49] (txtB N l k i j).data.toList = cb := ⟨_, rfl⟩
        have hcb2 : Lib.contains (⟨#[48, 49, 50, 48, 49]⟩ : ByteArray).data.toList (txtB N l k i j).data.toList = cb := hcb
        rw [hcb2] at HCn
        rw [hcb] at hr hl2
        have d0 : w3.cell? ⟨gc, 0, none⟩ = some (.int .i64 (k : Nat)) := HN3.out.cell 0
        have d1 : w3.cell? ⟨gc, 1, none⟩ = some (.int .i64 (i : Nat)) := HN3.out.cell 1
        have d2 : w3.cell? ⟨gc, 2, none⟩ = some (.int .i64 (j : Nat)) := HN3.out.cell 2
        have HRr := Aside0.mk hr
        have HLl := Aside0.mk hl2
        clear hr hl2 htc hcb hcb2
        generalize rigN N l q = rn at *
        generalize lefN N l q = ln at *
        obtain ⟨tx, htx⟩ : ∃ tx, txtB N l k i j = tx := ⟨_, rfl⟩
        rw [htx] at HTx HCn
        clear htx
        rcases (show k = 0 ∨ k = 1 by omega) with rfl | rfl <;> cases cb
        all_goals
          go_wp2_with fail
          refine HTx.out.mono ?_
          rintro e w4 ⟨rfl, hb4⟩
          have HB5 := Aside0.mk (below_then HB4.out HB4.out.size hb4)
          have hm4 : w4.cell? ⟨1, 0, none⟩ = some (.int .i64 mL) := ((below_then HB2.out HB2.out.size HB5.out).cell (World.block_lt_of_cell? w _ HM.out)).trans HM.out
          have e0 := (hb4.cell (World.block_lt_of_cell? w3 _ d0)).trans d0
          clear hb4 d0 d1 d2
          go_wp2_with fail
          refine (HCn.out w4 hm4).mono ?_
          rintro e w5 ⟨rfl, rfl⟩
          clear hm4
          go_wp2_with fail
          go_roundw
          case rel => exact ⟨q + 1, hqQ, by go_num, by rw [HRr.out]; first | rfl | go_num, by rw [HLl.out]; first | rfl | go_num, HB5⟩
          case measure => simp [intOf]; omega
    · obtain rfl : q = Q := by omega
      have HRa := Aside0.mk (show rigN N l q = rigL N l by rw [← HQ.out, rigN_all])
      have HLa := Aside0.mk (show lefN N l q = lefL N l by rw [← HQ.out, lefN_all])
      go_wp2_with fail
      go_ret3
      refine ⟨below_then HB2.out HB2.out.size HBr.out, ?_⟩
      rw [if_pos HE.out, Int.toNat_natCast, HLs.out, HRa.out, HLa.out]
      rfl
set_option maxHeartbeats 6400000 in
set_option maxRecDepth 100000 in
theorem turns_bad (n : Int) (s : ByteArray) (w : World) (hs : s.size ≤ 9223372036854775807) (hE : triE n s ≠ 0) :
    Calls Tryd.prog 31 #[.int .i64 n, .string s] w (TurnsPost n s w) := by
  have HO := Aside0.mk (of_any n s w hs)
  have HP : Aside0 (∀ w', Below w.heap.size w w' → TurnsPost n s w (.returned (.tuple #[.int .i64 0, .int .i64 0, .int .i64 (triE n s)])) w') := ⟨fun w' hb => ⟨hb, by rw [if_neg hE]⟩⟩
  have HQ := Aside0.mk (fun e w2 (h : OfPost n s w e w2) => (show e = .returned (.tuple #[.pointer none, .int .i64 (triE n s)]) ∧ Below w.heap.size w w2 by
    unfold OfPost at h
    rw [if_neg hE] at h
    exact ⟨h.2, h.1⟩))
  have hz : (triE n s == 0) = false := beq_eq_false_iff_ne.2 hE
  clear hE
  generalize triE n s = z at *
  go_enter Tryd.func31, Tryd.ntmps31
  go_wp2_with fail
  refine HO.out.mono ?_
  intro e w1 h1
  obtain ⟨rfl, hb1⟩ := HQ.out _ _ h1
  have HB := Aside0.mk hb1
  clear h1 hb1
  go_wp2_with fail
  go_ret3
  exact HP.out _ HB.out
theorem turns_call (n : Int) (s : ByteArray) (w : World) (hs : s.size ≤ 9223372036854775807) (mL : Int) (hm : w.cell? ⟨1, 0, none⟩ = some (.int .i64 mL)) : Calls Tryd.prog 31 #[.int .i64 n, .string s] w (TurnsPost n s w) := by
  by_cases hE : triE n s = 0
  · exact turns_good n s w hs hE mL hm
  · exact turns_bad n s w hs hE
end Go.Proofs.YtlmgkmmdaecpdaaDoor.Im

namespace Go.Proofs.YtlmgkmmdaecpdaaDoor.Im
open Go.RowKit Go.Proofs.YtlmgkmmdaecpdaaDoorW.PrintWords Go.Proofs.YtlmgkmmdaecpdaaDoorW.PrintLast Go.Proofs.YtlmgkmmdaecpdaaDoorW.PrintMore Go.Proofs.YtlmgkmmdaecpdaaDoor.Mi
set_option linter.unusedVariables false
theorem al_full : fulL 1 [48, 50, 49] = [[0, 0, 0]] := by decide
theorem al_rig : rigL 1 [48, 50, 49] = 1 := by decide
theorem al_lef : lefL 1 [48, 50, 49] = 0 := by decide
theorem al_err : triE 1 ⟨#[48, 50, 49]⟩ = 0 := by decide
end Go.Proofs.YtlmgkmmdaecpdaaDoor.Im

namespace Go.Proofs.YtlmgkmmdaecpdaaDoor.Im
open Go.RowKit Go.Proofs.YtlmgkmmdaecpdaaDoorW.PrintWords Go.Proofs.YtlmgkmmdaecpdaaDoorW.PrintLast Go.Proofs.YtlmgkmmdaecpdaaDoorW.PrintMore Go.Proofs.YtlmgkmmdaecpdaaDoor.Mi
set_option linter.unusedVariables false
theorem wy_closed {m : Nat} {nb : Nat → Nat → Prop} {ok en : Nat → Prop} (R : Nat → Prop) (h2 : ∀ a, R a → ∀ b, b < m → nb a b → ok b → R b) (h3 : ∀ a, R a → ¬ en a) : ∀ P, Wy m nb ok en P → ¬ R (headN P)
  | [], h => absurd rfl h.ne
  | [p], h => fun hr => h3 p hr h.fin
  | p :: q :: t, h => fun hr => by
    have hq := h.mem q (List.mem_cons_of_mem _ List.mem_cons_self)
    refine wy_closed R h2 h3 (q :: t) ⟨by simp, h.chain.2, fun x hx => h.mem x (List.mem_cons_of_mem _ hx), h.fin⟩ ?_
    exact h2 p hr q hq.1 h.chain.1 hq.2
theorem brO_closed {n : Nat} {bs : List Int} {p : Int} (R : List Nat) (h1 : ∀ a, a < n * n → okP bs p a → beP n p a → a ∈ R) (h2 : ∀ a ∈ R, ∀ b, b < n * n → NearN n a b → okP bs p b → b ∈ R) (h3 : ∀ a ∈ R, ¬ enP n p a) : brO n bs p = none :=
  brO_none fun P hP hb => wy_closed (fun a => a ∈ R) h2 h3 P hP (by
    have : headN P ∈ P := by
      cases P with
      | nil => exact absurd rfl hP.ne
      | cons a t => exact List.mem_cons_self
    exact h1 _ (hP.mem _ this).1 (hP.mem _ this).2 hb)
theorem al_ox : brO 2 [120, 111, 111, 120] 120 = none := brO_closed [0] (by decide) (by decide) (by decide)
end Go.Proofs.YtlmgkmmdaecpdaaDoor.Im

namespace Go.Proofs.YtlmgkmmdaecpdaaDoor.Im
open Go.RowKit Go.Proofs.YtlmgkmmdaecpdaaDoorW.PrintWords Go.Proofs.YtlmgkmmdaecpdaaDoorW.PrintLast Go.Proofs.YtlmgkmmdaecpdaaDoorW.PrintMore Go.Proofs.YtlmgkmmdaecpdaaDoor.Mi
set_option linter.unusedVariables false
set_option linter.unusedSimpArgs false
def Owns (w : World) (mb m : Nat) (D : DataW Unit) : Prop := w.ownsMap Tryd.prog 9 (plainElem Tryd.prog 5) mb m D
theorem Owns.blk {w w' : World} {mb m : Nat} {D : DataW Unit} (h : Owns w mb m D) (e : w'.heap[mb]? = w.heap[mb]?) : Owns w' mb m D := by
  obtain ⟨es, clock, h1, h2⟩ := h
  exact ⟨es, clock, e.trans h1, h2⟩
theorem Owns.lt {w : World} {mb m : Nat} {D : DataW Unit} (h : Owns w mb m D) : mb < w.heap.size := World.ownsMap.lt h
def tP : Nat → Nat
  | 0 => 0
  | k + 1 => tN k
theorem tN_tP (k : Nat) : tN k = 1 + 121 * tP k := by cases k <;> rfl
def prW (gb mb : Nat) (i : Nat) : Prop := i ≠ gb ∧ i ≠ mb
structure WinsPre (n g gb cb mb m : Nat) (l : List UInt8) (w : World) (D : DataW Unit) : Prop where
  st : Steps w
  hd : Blk w g 89 #[.int .i64 n, .slice (some ⟨gb, 0, none⟩) (n * n) cb]
  byt : Byts w gb (n * n) (bl l)
  len : l.length = n * n
  n1 : 1 ≤ n
  n11 : n ≤ 11
  own : Owns w mb m D
  kn : Known n D
  bud : m + tN (l.count 46) ≤ 9223372036854775807
  cnt : CntOk l
  ng : g ≠ gb
  ngm : g ≠ mb
  nbm : gb ≠ mb
  nb0 : 0 ≠ gb
  nm0 : 0 ≠ mb
theorem WinsPre.brd {n g gb cb mb m : Nat} {l : List UInt8} {w : World} {D : DataW Unit} (h : WinsPre n g gb cb mb m l w D) : Brd w g n gb cb (bl l) :=
  ⟨h.hd, C_of_byts h.byt (by rw [bl_len, h.len]) (by have := Nat.mul_le_mul h.n11 h.n11; omega), by rw [bl_len, h.len], h.n1, h.n11⟩
theorem WinsPre.later {n g gb cb mb m : Nat} {l : List UInt8} {w w' : World} {D : DataW Unit} (h : WinsPre n g gb cb mb m l w D) (hb : Below w.heap.size w w') : WinsPre n g gb cb mb m l w' D :=
  ⟨h.st.later hb, h.hd.later hb, h.byt.later hb, h.len, h.n1, h.n11, h.own.blk (hb.block _ h.own.lt), h.kn, h.bud, h.cnt, h.ng, h.ngm, h.nbm, h.nb0, h.nm0⟩
def WinsPost (n gb mb m : Nat) (l : List UInt8) (w : World) (e : Ending) (w' : World) : Prop :=
  e = .returned (.int .u8 (gv n l)) ∧ Keep (prW gb mb) w w' ∧ Byts w' gb (n * n) (bl l) ∧ ∃ D', Owns w' mb (m + tN (l.count 46)) D' ∧ Known n D'
def WinsAt (n g gb cb mb : Nat) (k : Nat) : Prop := ∀ (l : List UInt8) (m : Nat) (w : World) (D : DataW Unit) (p : Int), l.count 46 = k → ((nxB l).toNat : Int) = p → WinsPre n g gb cb mb m l w D →
  Calls Tryd.prog 44 #[.pointer (some ⟨g, 0, none⟩), .int .u8 p, .map (some mb)] w (WinsPost n gb mb m l w)
structure WinsI (n gb mb m : Nat) (l : List UInt8) (w : World) (D : DataW Unit) (wr : World) : Prop where
  keep : Keep (prW gb mb) w wr
  byt : Byts wr gb (n * n) (bl l)
  own : Owns wr mb m D
  kn : Known n D
theorem set_back {l : List UInt8} {i : Nat} (h : l[i]? = some 46) (a : UInt8) : (bl (l.set i a)).set i 46 = bl l := by
  rw [show (46 : Int) = ((46 : UInt8).toNat : Int) from rfl, ← bl_set, List.set_set]
  congr 1
  apply List.ext_getElem?
  intro j
  rw [List.getElem?_set]
  by_cases e : i = j
  · subst e
    rw [if_pos rfl]
    split
    · exact h.symm
    · rename_i hh
      rw [List.getElem?_eq_none (by omega)]
  · rw [if_neg e]
theorem WinsI.into {n g gb cb mb m m' : Nat} {l : List UInt8} {w wr : World} {D D' : DataW Unit} (h : WinsPre n g gb cb mb m l w D) (hi : WinsI n gb mb m' l w D' wr) {i : Nat} (hl : l[i]? = some 46) (hin : i < n * n) (hb : m' + tN ((l.set i (nxB l)).count 46) ≤ 9223372036854775807) :
    WinsPre n g gb cb mb m' (l.set i (nxB l)) (wr.setCell ⟨gb, i, none⟩ (.int .u8 ((nxB l).toNat : Int))) D' := by
  have hk := hi.keep.trans (Keep.set_ (p := prW gb mb) wr gb i (.int .u8 ((nxB l).toNat : Int)) (fun h => h.1 rfl))
  refine ⟨hk.blk h.st ⟨h.nb0, h.nm0⟩, hk.blk h.hd ⟨h.ng, h.ngm⟩, ?_, by rw [List.length_set]; exact h.len, h.n1, h.n11, ?_, hi.kn, hb, (cnt_set h.cnt hl).1, h.ng, h.ngm, h.nbm, h.nb0, h.nm0⟩
  · rw [bl_set]
    exact hi.byt.set_ (by rw [bl_len, h.len]) hin _
  · exact hi.own.blk (Below.heap_setCell wr _ _ mb (fun e => h.nbm e.symm))
theorem WinsI.back {n g gb cb mb m m' : Nat} {l : List UInt8} {w wr w2 : World} {D D' : DataW Unit} (h : WinsPre n g gb cb mb m l w D) (hi : WinsI n gb mb m' l w D' wr) {i : Nat} (hl : l[i]? = some 46) (hin : i < n * n) {e : Ending}
    (hp : WinsPost n gb mb m' (l.set i (nxB l)) (wr.setCell ⟨gb, i, none⟩ (.int .u8 ((nxB l).toNat : Int))) e w2) :
    e = .returned (.int .u8 (gv n (l.set i (nxB l)))) ∧ Keep (prW gb mb) w w2 ∧ Byts w2 gb (n * n) (bl (l.set i (nxB l))) ∧ ∃ D2, WinsI n gb mb (m' + tN ((l.set i (nxB l)).count 46)) l w D2 (w2.setCell ⟨gb, i, none⟩ (.int .u8 46)) := by
  obtain ⟨he, hk2, hb2, D2, ho2, hn2⟩ := hp
  have hk := (hi.keep.trans (Keep.set_ (p := prW gb mb) wr gb i (.int .u8 ((nxB l).toNat : Int)) (fun h => h.1 rfl))).trans hk2
  refine ⟨he, hk, hb2, D2, ⟨hk.trans (Keep.set_ _ _ _ _ (fun h => h.1 rfl)), ?_, ho2.blk (Below.heap_setCell w2 _ _ mb (fun e => h.nbm e.symm)), hn2⟩⟩
  have := hb2.set_ (by rw [bl_len, List.length_set, h.len]) hin 46
  rw [set_back hl] at this
  exact this
theorem zeroU (w : World) : (zeroValue 5).run Tryd.prog w = .ok (.int .u8 0) w := by kernel_rfl
theorem wf_gv (n : Nat) (l : List UInt8) : (Lit.int .u8 (gv n l)).wf = true := by
  rcases gv_cases n l with e | e <;> rw [e] <;> decide
end Go.Proofs.YtlmgkmmdaecpdaaDoor.Im

namespace Go.Proofs.YtlmgkmmdaecpdaaDoor.Im
open Go.RowKit Go.Proofs.YtlmgkmmdaecpdaaDoorW.PrintWords Go.Proofs.YtlmgkmmdaecpdaaDoorW.PrintLast Go.Proofs.YtlmgkmmdaecpdaaDoorW.PrintMore Go.Proofs.YtlmgkmmdaecpdaaDoor.Mi
set_option linter.unusedVariables false
set_option linter.unusedSimpArgs false
theorem atKey_val {n : Nat} {D : DataW Unit} {l : List UInt8} {c : Int} (hk : Known n D) (hh : Maps.has D (.string l) = true) (hat : D.atKey (.string l) (.lit (.int .u8 0)) = .lit (.int .u8 c)) : c = gv n l := by
  have := hk.2 l hh
  rw [hat] at this
  cases this
  rfl
theorem wins_end {n g gb cb mb m m' : Nat} {l : List UInt8} {w w1 wr w2 : World} {D D' : DataW Unit} (h : WinsPre n g gb cb mb m l w D) (hb : Below w.heap.size w w1) (hi : WinsI n gb mb m' l w1 D' wr) (hm : m' + 1 ≤ m + tN (l.count 46))
    (ho : w2.ownsMap Tryd.prog 9 (plainElem Tryd.prog 5) mb (m' + 1) (D'.put (.string l) (.lit (.int .u8 (gv n l))))) (hg : wr.grownBy w2 (some mb)) : WinsPost n gb mb m l w (.returned (.int .u8 (gv n l))) w2 := by
  have hk : Keep (prW gb mb) wr w2 := Keep.of_grown hg (fun h => h.2 rfl)
  exact ⟨rfl, ((Keep.of_below hb).trans hi.keep).trans hk, hi.byt.blk (hg.block _ hi.byt.lt (fun e => h.nbm (by cases e; rfl))), _, ho.mono hm, hi.kn.put l⟩
set_option maxHeartbeats 6400000 in
set_option maxRecDepth 100000 in
theorem wins_at (n g gb cb mb k : Nat) (ih : ∀ k', k' + 1 = k → WinsAt n g gb cb mb k') : ∀ (l : List UInt8) (m : Nat) (w : World) (D : DataW Unit) (p q : Int), l.count 46 = k → ((nxB l).toNat : Int) = p → (p = 120 ∧ q = 111 ∨ p = 111 ∧ q = 120) → WinsPre n g gb cb mb m l w D →
    Calls Tryd.prog 44 #[.pointer (some ⟨g, 0, none⟩), .int .u8 p, .map (some mb)] w (WinsPost n gb mb m l w) := by
  intro l m w D p q hc hp hpq hpre
  have HPre := Aside0.mk hpre
  have IH := Aside0.mk ih
  have HC := Aside0.mk hc
  have HP := Aside0.mk hp
  obtain ⟨M, hM⟩ : ∃ M, n * n = M := ⟨_, rfl⟩
  have HM := Aside0.mk hM
  have hM121 : M ≤ 121 := by rw [← hM]; exact Nat.mul_le_mul hpre.n11 hpre.n11
  have cg0 : w.cell? ⟨g, 1, none⟩ = some (.slice (some ⟨gb, 0, none⟩) M cb) := by have := hpre.hd.cell 1; rw [hM] at this; exact this
  obtain ⟨s, hs, hsz⟩ : ∃ s : ByteArray, s.data.toList = l ∧ s.size = M := ⟨⟨l.toArray⟩, rfl, by show l.length = M; rw [hpre.len, hM]⟩
  have hse : (⟨l.toArray⟩ : ByteArray) = s := by
    apply ByteArray.ext
    rw [← hs]
  have hby := hpre.byt.bytes hpre.len
  rw [hse] at hby
  have hcv : (convert 60 9 (.slice (some ⟨gb, 0, none⟩) M cb)).run Tryd.prog w = .ok (.string s) w := by
    have := Lib.run_convert_whole (P := Tryd.prog) w 60 5 9 Tryd.underlying60 Tryd.underlying5 Tryd.underlying9 gb 0 s hby cb
    rw [hsz] at this
    exact this
  have hkey : keyOf Tryd.prog 9 (.string s) = some (.string l) := by
    have := WideMaps.keyOf_string_mk (P := Tryd.prog) Tryd.underlying9 (s := s) (by rw [hsz]; exact Nat.le_trans hM121 (by decide))
    rw [hs] at this
    exact this
  have K := Maps.string_keyed (P := Tryd.prog) (k := 9) Tryd.underlying9
  have hkn := hpre.kn
  have hown : w.ownsMap Tryd.prog 9 (plainElem Tryd.prog 5) mb m D := hpre.own
  clear hse hby hs hsz hM hpre ih hc hp
  cases hhas : Maps.has D (.string l) with
  | true =>
    have HV := Aside0.mk (fun c h => atKey_val (c := c) hkn hhas h)
    clear hkn
    go_enter Tryd.func44, Tryd.ntmps44
    go_wp2_with (at_lookup; refine wpList_lookup_own_ok_int _ rfl _ _ 58 rfl 9 5 .u8 K Tryd.underlying58 Tryd.underlying5 (zeroU _) mb m D rfl hown _ _ rfl hkey ?_; intro c hat hwc; rw [hhas]; have HCC := Aside0.mk (HV.out c hat); clear hat)
    go_ret
    rw [HCC.out]
    exact ⟨rfl, Keep.refl _ _, HPre.out.byt, D, hown.mono (Nat.le_add_right _ _), HPre.out.kn⟩
  | false =>
    have HB0 := HPre.out.brd
    have HW := Aside0.mk (winner_any g n gb cb (bl l) w HPre.out.st HB0)
    have hwl : (Lit.int .u8 (gv n l)).wf = true := wf_gv n l
    have hval := fun (v : Int) (h : (Lit.int .u8 v).wf = true) => plainElem_int (H := Unit) (P := Tryd.prog) Tryd.underlying5 h
    have HBud := Aside0.mk HPre.out.bud
    have htp := tN_tP (l.count 46)
    clear HB0 hkn
    by_cases h0 : winB n (bl l) = 0
    · have hz : (winB n (bl l) == 0) = true := by rw [h0]; rfl
      have H0 := Aside0.mk h0
      rw [h0] at HW
      clear hz h0
      have HPQ := Aside0.mk hpq
      rcases hpq with ⟨rfl, rfl⟩ | ⟨rfl, rfl⟩
      · go_enter Tryd.func44, Tryd.ntmps44
        go_wp2_with (at_lookup; refine wpList_lookup_own_ok_int _ rfl _ _ 58 rfl 9 5 .u8 K Tryd.underlying58 Tryd.underlying5 (zeroU _) mb m D rfl hown _ _ rfl hkey ?_; intro c hat hwc; rw [hhas]; clear hat)
        refine HW.out.mono ?_
        rintro e w1 ⟨rfl, hb1⟩
        have HB1 := Aside0.mk hb1
        have HPre1 := Aside0.mk (HPre.out.later hb1)
        have cg1 : w1.cell? ⟨g, 1, none⟩ = some (.slice (some ⟨gb, 0, none⟩) M cb) := (hb1.cell (World.block_lt_of_cell? w _ cg0)).trans cg0
        clear hb1 HW cg0 hcv hown
        go_wp2_with fail
        have hI0 : WinsI n gb mb m l w1 D w1 := ⟨Keep.refl _ _, HPre1.out.byt, HPre1.out.own, HPre1.out.kn⟩
        have HI0 := Aside0.mk hI0
        clear hI0
        go_loopw [11, 40] (fun v11 v40 wr => ∃ (i : Nat) (D' : DataW Unit), i ≤ M ∧ v40 = .int .i64 (i : Int) ∧ v11 = .int .u8 111 ∧ Aside0 (∀ j : Nat, j < i → l[j]? = some 46 → gv n (l.set j (nxB l)) ≠ 120) ∧ Aside0 (WinsI n gb mb (m + i * tP k) l w1 D' wr)) (fun _ v _ => M - (intOf v).toNat)
        case atStart => exact ⟨0, D, Nat.zero_le _, rfl, rfl, ⟨fun j hj => absurd hj (Nat.not_lt_zero j)⟩, ⟨by rw [Nat.zero_mul]; exact HI0.out⟩⟩
        case round =>
          clear HI0
          obtain ⟨i, D', hi, rfl, rfl, HN, HI⟩ := hrel
          have hbnd : m + i * tP k + 1 ≤ m + tN (l.count 46) := by
            have h1 := htp
            rw [HC.out] at h1 ⊢
            have h2 := Nat.mul_le_mul_right (tP k) (Nat.le_trans hi hM121)
            omega
          have HBnd := Aside0.mk hbnd
          by_cases hiM : i < M
          · have hlt : i < l.length := by rw [HPre.out.len, HM.out]; exact hiM
            obtain ⟨b, hb⟩ : ∃ b, l[i]? = some b := ⟨_, List.getElem?_eq_getElem hlt⟩
            have cb0 : wr.cell? ⟨gb, i, none⟩ = some (.int .u8 (b.toNat : Int)) := by
              have := HI.out.byt.cell (i := i) (by rw [HM.out]; exact hiM)
              rw [bl_get hb] at this
              exact this
            have i0 : (0 : Int) ≤ (i : Int) := Int.natCast_nonneg i
            have i1 : (i : Int) < (M : Int) := Int.ofNat_lt.2 hiM
            by_cases hd : b = 46
            · subst hd
              obtain ⟨k', hk'⟩ : ∃ k', k' + 1 = k := ⟨(l.set i (nxB l)).count 46, by rw [count_dots hb (nxB l) (nx_ne l)]; exact HC.out⟩
              have hck : (l.set i (nxB l)).count 46 = k' := by have := count_dots hb (nxB l) (nx_ne l); have := HC.out; omega
              have htk : tP k = tN k' := by rw [← hk']; rfl
              have hin : i < n * n := by rw [HM.out]; exact hiM
              have hbk : m + i * tP k + tN ((l.set i (nxB l)).count 46) ≤ 9223372036854775807 := by
                rw [hck, ← htk]
                have h1 := htp
                have h3 := HBud.out
                rw [HC.out] at h1 h3
                have h2 := Nat.mul_le_mul_right (tP k) (show i + 1 ≤ 121 by omega)
                rw [Nat.add_mul, Nat.one_mul] at h2
                omega
              have hinto := HI.out.into HPre1.out hb hin hbk
              have hnx : ((nxB (l.set i (nxB l))).toNat : Int) = 111 := by
                rw [(cnt_set HPre.out.cnt hb).2, ← nx_num, HP.out]; rfl
              have hcall := IH.out k' hk' (l.set i (nxB l)) (m + i * tP k) _ D' 111 hck hnx hinto
              rw [HP.out] at hcall
              have HCall := Aside0.mk hcall
              have HBack := Aside0.mk (fun e w2 h => HI.out.back (e := e) (w2 := w2) HPre1.out hb hin h)
              rw [HP.out, hck, ← htk] at HBack
              have cgr : wr.cell? ⟨g, 1, none⟩ = some (.slice (some ⟨gb, 0, none⟩) M cb) := by
                have := (HI.out.keep.blk HPre1.out.hd ⟨HPre.out.ng, HPre.out.ngm⟩).cell 1
                rw [HM.out] at this
                exact this
              have fr0 := HI.out.byt.frozen hin
              clear hinto hcall hbk hnx hck htk hlt hk'
              have hown_ : (bl (l.set i (nxB l))).getD i 0 = 120 := by
                have h2 : (l.set i (nxB l))[i]? = some (nxB l) := by rw [List.getElem?_set_self (by rw [HPre.out.len]; exact hin)]
                rw [bl_get h2, HP.out]
              have HO := Aside0.mk hown_
              have hm1 : m + i * tP k + tP k + 1 ≤ m + tN (l.count 46) := by
                have h1 := htp
                rw [HC.out] at h1 ⊢
                have h2 := Nat.mul_le_mul_right (tP k) (show i + 1 ≤ 121 by omega)
                rw [Nat.add_mul, Nat.one_mul] at h2
                omega
              have HM1 := Aside0.mk hm1
              have hlm : m + i * tP k + tP k < maxLen := by
                have h3 := HBud.out
                have : maxLen = 9223372036854775807 := rfl
                omega
              have hin0 := Aside0.mk hin
              clear hown_ hm1 hbnd htp
              by_cases hw : gv n (l.set i (nxB l)) = 120
              · have hgv := gv_move H0.out hb (hw.trans HP.out.symm)
                rw [HP.out] at hgv
                have HGV := Aside0.mk hgv
                have HWW := Aside0.mk hw
                have hv1 := hval 120 (by decide)
                clear hw hgv hb hin
                go_wp2_with fail
                refine HCall.out.mono ?_
                intro e w2 hp2
                obtain ⟨rfl, hk2, hb2, D2, hI2⟩ := HBack.out e w2 hp2
                have cg2 : w2.cell? ⟨g, 1, none⟩ = some (.slice (some ⟨gb, 0, none⟩) M cb) := by
                  have := (hk2.blk HPre1.out.hd ⟨HPre.out.ng, HPre.out.ngm⟩).cell 1
                  rw [HM.out] at this
                  exact this
                have cb2 := hb2.cell hin0.out
                have fr2 := hb2.frozen hin0.out
                have HI2 := Aside0.mk hI2
                have hown2 : (w2.setCell ⟨gb, i, none⟩ (.int .u8 46)).ownsMap Tryd.prog 9 (plainElem Tryd.prog 5) mb (m + i * tP k + tP k) D2 := hI2.own
                rw [HWW.out]
                rw [HO.out] at cb2
                clear hp2 hk2 hb2 hI2 HCall HBack cgr cb0 fr0 HI
                go_wp2_with (at_mapUpdate; refine wpList_mapUpdate_own _ rfl _ _ _ 58 rfl 9 5 K Tryd.underlying58 _ mb (m + i * tP k + tP k) D2 rfl hown2 hlm _ _ (.string l) rfl rfl hkey (.lit (.int .u8 120)) [] hv1 ?_; intro w3 hown3 hg3; have HW3 := Aside0.mk hown3; have HG3 := Aside0.mk hg3; clear hown3 hg3)
                go_ret
                have hfin := wins_end HPre.out HB1.out HI2.out HM1.out (by rw [HGV.out]; exact HW3.out) HG3.out
                rw [HGV.out] at hfin
                exact hfin
              · have HN2 : Aside0 (∀ j : Nat, j < i + 1 → l[j]? = some 46 → gv n (l.set j (nxB l)) ≠ 120) := ⟨fun j hj h => by
                  rcases Nat.lt_or_ge j i with h2 | h2
                  · exact HN.out j h2 h
                  · obtain rfl : j = i := by omega
                    exact hw⟩
                have hx : (gv n (l.set i (nxB l)) == 120) = false := beq_eq_false_iff_ne.2 hw
                clear hw hb hin
                go_wp2_with fail
                refine HCall.out.mono ?_
                intro e w2 hp2
                obtain ⟨rfl, hk2, hb2, D2, hI2⟩ := HBack.out e w2 hp2
                have cg2 : w2.cell? ⟨g, 1, none⟩ = some (.slice (some ⟨gb, 0, none⟩) M cb) := by
                  have := (hk2.blk HPre1.out.hd ⟨HPre.out.ng, HPre.out.ngm⟩).cell 1
                  rw [HM.out] at this
                  exact this
                have cb2 := hb2.cell hin0.out
                have fr2 := hb2.frozen hin0.out
                have HI2 := Aside0.mk hI2
                rw [HO.out] at cb2
                have HN3 := HN2
                clear hp2 hk2 hb2 hI2 HCall HBack cgr cb0 fr0 HI HN2
                generalize gv n (l.set i (nxB l)) = xv at *
                go_wp2_with fail
                go_roundw
                case rel => exact ⟨i + 1, D2, hiM, by go_num, rfl, HN3, ⟨by rw [Nat.add_mul, Nat.one_mul, ← Nat.add_assoc]; exact HI2.out⟩⟩
                case measure => simp [intOf]; omega
            · have hne : ((b.toNat : Int) == 46) = false := by
                have : b.toNat ≠ 46 := fun e => hd (UInt8.toNat_inj.1 e)
                exact beq_eq_false_iff_ne.2 (by omega)
              have hne' : ((b.toNat : Int) != 46) = true := by rw [bne, hne]; rfl
              have HN2 : Aside0 (∀ j : Nat, j < i + 1 → l[j]? = some 46 → gv n (l.set j (nxB l)) ≠ 120) := ⟨fun j hj h => by
                rcases Nat.lt_or_ge j i with h2 | h2
                · exact HN.out j h2 h
                · obtain rfl : j = i := by omega
                  rw [hb] at h
                  exact absurd (Option.some.inj h) hd⟩
              have HI2 : Aside0 (WinsI n gb mb (m + (i + 1) * tP k) l w1 D' wr) := ⟨⟨HI.out.keep, HI.out.byt, World.ownsMap.mono HI.out.own (by rw [Nat.add_mul]; omega), HI.out.kn⟩⟩
              clear hb hd hlt hbnd
              generalize (b.toNat : Int) = bz at *
              go_wp2_with fail
              go_roundw
              case rel => exact ⟨i + 1, D', hiM, by go_num, rfl, HN2, HI2⟩
              case measure => simp [intOf]; omega
          · obtain hiE : i = M := by omega
            have hgv : gv n l = 111 := by
              rw [gv_no H0.out (fun j hj => by
                rw [HP.out]
                refine HN.out j ?_ hj
                have h2 := HPre.out.len
                rw [HM.out] at h2
                rcases Nat.lt_or_ge j l.length with h' | h'
                · omega
                · rw [List.getElem?_eq_none h'] at hj; cases hj), HP.out]
              rfl
            have HGV := Aside0.mk hgv
            have hv1 := hval 111 (by decide)
            have hown2 : wr.ownsMap Tryd.prog 9 (plainElem Tryd.prog 5) mb (m + i * tP k) D' := HI.out.own
            have hlm : m + i * tP k < maxLen := by
              have h3 := HBud.out
              have : maxLen = 9223372036854775807 := rfl
              omega
            clear hgv hbnd htp
            go_wp2_with (at_mapUpdate; refine wpList_mapUpdate_own _ rfl _ _ _ 58 rfl 9 5 K Tryd.underlying58 _ mb (m + i * tP k) D' rfl hown2 hlm _ _ (.string l) rfl rfl hkey (.lit (.int .u8 111)) [] hv1 ?_; intro w3 hown3 hg3; have HW3 := Aside0.mk hown3; have HG3 := Aside0.mk hg3; clear hown3 hg3)
            go_ret
            have hfin := wins_end HPre.out HB1.out HI.out HBnd.out (by rw [HGV.out]; exact HW3.out) HG3.out
            rw [HGV.out] at hfin
            exact hfin

      · go_enter Tryd.func44, Tryd.ntmps44
        go_wp2_with (at_lookup; refine wpList_lookup_own_ok_int _ rfl _ _ 58 rfl 9 5 .u8 K Tryd.underlying58 Tryd.underlying5 (zeroU _) mb m D rfl hown _ _ rfl hkey ?_; intro c hat hwc; rw [hhas]; clear hat)
        refine HW.out.mono ?_
        rintro e w1 ⟨rfl, hb1⟩
        have HB1 := Aside0.mk hb1
        have HPre1 := Aside0.mk (HPre.out.later hb1)
        have cg1 : w1.cell? ⟨g, 1, none⟩ = some (.slice (some ⟨gb, 0, none⟩) M cb) := (hb1.cell (World.block_lt_of_cell? w _ cg0)).trans cg0
        clear hb1 HW cg0 hcv hown
        go_wp2_with fail
        have hI0 : WinsI n gb mb m l w1 D w1 := ⟨Keep.refl _ _, HPre1.out.byt, HPre1.out.own, HPre1.out.kn⟩
        have HI0 := Aside0.mk hI0
        clear hI0
        go_loopw [11, 40] (fun v11 v40 wr => ∃ (i : Nat) (D' : DataW Unit), i ≤ M ∧ v40 = .int .i64 (i : Int) ∧ v11 = .int .u8 120 ∧ Aside0 (∀ j : Nat, j < i → l[j]? = some 46 → gv n (l.set j (nxB l)) ≠ 111) ∧ Aside0 (WinsI n gb mb (m + i * tP k) l w1 D' wr)) (fun _ v _ => M - (intOf v).toNat)
        case atStart => exact ⟨0, D, Nat.zero_le _, rfl, rfl, ⟨fun j hj => absurd hj (Nat.not_lt_zero j)⟩, ⟨by rw [Nat.zero_mul]; exact HI0.out⟩⟩
        case round =>
          clear HI0
          obtain ⟨i, D', hi, rfl, rfl, HN, HI⟩ := hrel
          have hbnd : m + i * tP k + 1 ≤ m + tN (l.count 46) := by
            have h1 := htp
            rw [HC.out] at h1 ⊢
            have h2 := Nat.mul_le_mul_right (tP k) (Nat.le_trans hi hM121)
            omega
          have HBnd := Aside0.mk hbnd
          by_cases hiM : i < M
          · have hlt : i < l.length := by rw [HPre.out.len, HM.out]; exact hiM
            obtain ⟨b, hb⟩ : ∃ b, l[i]? = some b := ⟨_, List.getElem?_eq_getElem hlt⟩
            have cb0 : wr.cell? ⟨gb, i, none⟩ = some (.int .u8 (b.toNat : Int)) := by
              have := HI.out.byt.cell (i := i) (by rw [HM.out]; exact hiM)
              rw [bl_get hb] at this
              exact this
            have i0 : (0 : Int) ≤ (i : Int) := Int.natCast_nonneg i
            have i1 : (i : Int) < (M : Int) := Int.ofNat_lt.2 hiM
            by_cases hd : b = 46
            · subst hd
              obtain ⟨k', hk'⟩ : ∃ k', k' + 1 = k := ⟨(l.set i (nxB l)).count 46, by rw [count_dots hb (nxB l) (nx_ne l)]; exact HC.out⟩
              have hck : (l.set i (nxB l)).count 46 = k' := by have := count_dots hb (nxB l) (nx_ne l); have := HC.out; omega
              have htk : tP k = tN k' := by rw [← hk']; rfl
              have hin : i < n * n := by rw [HM.out]; exact hiM
              have hbk : m + i * tP k + tN ((l.set i (nxB l)).count 46) ≤ 9223372036854775807 := by
                rw [hck, ← htk]
                have h1 := htp
                have h3 := HBud.out
                rw [HC.out] at h1 h3
                have h2 := Nat.mul_le_mul_right (tP k) (show i + 1 ≤ 121 by omega)
                rw [Nat.add_mul, Nat.one_mul] at h2
                omega
              have hinto := HI.out.into HPre1.out hb hin hbk
              have hnx : ((nxB (l.set i (nxB l))).toNat : Int) = 120 := by
                rw [(cnt_set HPre.out.cnt hb).2, ← nx_num, HP.out]; rfl
              have hcall := IH.out k' hk' (l.set i (nxB l)) (m + i * tP k) _ D' 120 hck hnx hinto
              rw [HP.out] at hcall
              have HCall := Aside0.mk hcall
              have HBack := Aside0.mk (fun e w2 h => HI.out.back (e := e) (w2 := w2) HPre1.out hb hin h)
              rw [HP.out, hck, ← htk] at HBack
              have cgr : wr.cell? ⟨g, 1, none⟩ = some (.slice (some ⟨gb, 0, none⟩) M cb) := by
                have := (HI.out.keep.blk HPre1.out.hd ⟨HPre.out.ng, HPre.out.ngm⟩).cell 1
                rw [HM.out] at this
                exact this
              have fr0 := HI.out.byt.frozen hin
              clear hinto hcall hbk hnx hck htk hlt hk'
              have hown_ : (bl (l.set i (nxB l))).getD i 0 = 111 := by
                have h2 : (l.set i (nxB l))[i]? = some (nxB l) := by rw [List.getElem?_set_self (by rw [HPre.out.len]; exact hin)]
                rw [bl_get h2, HP.out]
              have HO := Aside0.mk hown_
              have hm1 : m + i * tP k + tP k + 1 ≤ m + tN (l.count 46) := by
                have h1 := htp
                rw [HC.out] at h1 ⊢
                have h2 := Nat.mul_le_mul_right (tP k) (show i + 1 ≤ 121 by omega)
                rw [Nat.add_mul, Nat.one_mul] at h2
                omega
              have HM1 := Aside0.mk hm1
              have hlm : m + i * tP k + tP k < maxLen := by
                have h3 := HBud.out
                have : maxLen = 9223372036854775807 := rfl
                omega
              have hin0 := Aside0.mk hin
              clear hown_ hm1 hbnd htp
              by_cases hw : gv n (l.set i (nxB l)) = 111
              · have hgv := gv_move H0.out hb (hw.trans HP.out.symm)
                rw [HP.out] at hgv
                have HGV := Aside0.mk hgv
                have HWW := Aside0.mk hw
                have hv1 := hval 111 (by decide)
                clear hw hgv hb hin
                go_wp2_with fail
                refine HCall.out.mono ?_
                intro e w2 hp2
                obtain ⟨rfl, hk2, hb2, D2, hI2⟩ := HBack.out e w2 hp2
                have cg2 : w2.cell? ⟨g, 1, none⟩ = some (.slice (some ⟨gb, 0, none⟩) M cb) := by
                  have := (hk2.blk HPre1.out.hd ⟨HPre.out.ng, HPre.out.ngm⟩).cell 1
                  rw [HM.out] at this
                  exact this
                have cb2 := hb2.cell hin0.out
                have fr2 := hb2.frozen hin0.out
                have HI2 := Aside0.mk hI2
                have hown2 : (w2.setCell ⟨gb, i, none⟩ (.int .u8 46)).ownsMap Tryd.prog 9 (plainElem Tryd.prog 5) mb (m + i * tP k + tP k) D2 := hI2.own
                rw [HWW.out]
                rw [HO.out] at cb2
                clear hp2 hk2 hb2 hI2 HCall HBack cgr cb0 fr0 HI
                go_wp2_with (at_mapUpdate; refine wpList_mapUpdate_own _ rfl _ _ _ 58 rfl 9 5 K Tryd.underlying58 _ mb (m + i * tP k + tP k) D2 rfl hown2 hlm _ _ (.string l) rfl rfl hkey (.lit (.int .u8 111)) [] hv1 ?_; intro w3 hown3 hg3; have HW3 := Aside0.mk hown3; have HG3 := Aside0.mk hg3; clear hown3 hg3)
                go_ret
                have hfin := wins_end HPre.out HB1.out HI2.out HM1.out (by rw [HGV.out]; exact HW3.out) HG3.out
                rw [HGV.out] at hfin
                exact hfin
              · have HN2 : Aside0 (∀ j : Nat, j < i + 1 → l[j]? = some 46 → gv n (l.set j (nxB l)) ≠ 111) := ⟨fun j hj h => by
                  rcases Nat.lt_or_ge j i with h2 | h2
                  · exact HN.out j h2 h
                  · obtain rfl : j = i := by omega
                    exact hw⟩
                have hx : (gv n (l.set i (nxB l)) == 111) = false := beq_eq_false_iff_ne.2 hw
                clear hw hb hin
                go_wp2_with fail
                refine HCall.out.mono ?_
                intro e w2 hp2
                obtain ⟨rfl, hk2, hb2, D2, hI2⟩ := HBack.out e w2 hp2
                have cg2 : w2.cell? ⟨g, 1, none⟩ = some (.slice (some ⟨gb, 0, none⟩) M cb) := by
                  have := (hk2.blk HPre1.out.hd ⟨HPre.out.ng, HPre.out.ngm⟩).cell 1
                  rw [HM.out] at this
                  exact this
                have cb2 := hb2.cell hin0.out
                have fr2 := hb2.frozen hin0.out
                have HI2 := Aside0.mk hI2
                rw [HO.out] at cb2
                have HN3 := HN2
                clear hp2 hk2 hb2 hI2 HCall HBack cgr cb0 fr0 HI HN2
                generalize gv n (l.set i (nxB l)) = xv at *
                go_wp2_with fail
                go_roundw
                case rel => exact ⟨i + 1, D2, hiM, by go_num, rfl, HN3, ⟨by rw [Nat.add_mul, Nat.one_mul, ← Nat.add_assoc]; exact HI2.out⟩⟩
                case measure => simp [intOf]; omega
            · have hne : ((b.toNat : Int) == 46) = false := by
                have : b.toNat ≠ 46 := fun e => hd (UInt8.toNat_inj.1 e)
                exact beq_eq_false_iff_ne.2 (by omega)
              have hne' : ((b.toNat : Int) != 46) = true := by rw [bne, hne]; rfl
              have HN2 : Aside0 (∀ j : Nat, j < i + 1 → l[j]? = some 46 → gv n (l.set j (nxB l)) ≠ 111) := ⟨fun j hj h => by
                rcases Nat.lt_or_ge j i with h2 | h2
                · exact HN.out j h2 h
                · obtain rfl : j = i := by omega
                  rw [hb] at h
                  exact absurd (Option.some.inj h) hd⟩
              have HI2 : Aside0 (WinsI n gb mb (m + (i + 1) * tP k) l w1 D' wr) := ⟨⟨HI.out.keep, HI.out.byt, World.ownsMap.mono HI.out.own (by rw [Nat.add_mul]; omega), HI.out.kn⟩⟩
              clear hb hd hlt hbnd
              generalize (b.toNat : Int) = bz at *
              go_wp2_with fail
              go_roundw
              case rel => exact ⟨i + 1, D', hiM, by go_num, rfl, HN2, HI2⟩
              case measure => simp [intOf]; omega
          · obtain hiE : i = M := by omega
            have hgv : gv n l = 120 := by
              rw [gv_no H0.out (fun j hj => by
                rw [HP.out]
                refine HN.out j ?_ hj
                have h2 := HPre.out.len
                rw [HM.out] at h2
                rcases Nat.lt_or_ge j l.length with h' | h'
                · omega
                · rw [List.getElem?_eq_none h'] at hj; cases hj), HP.out]
              rfl
            have HGV := Aside0.mk hgv
            have hv1 := hval 120 (by decide)
            have hown2 : wr.ownsMap Tryd.prog 9 (plainElem Tryd.prog 5) mb (m + i * tP k) D' := HI.out.own
            have hlm : m + i * tP k < maxLen := by
              have h3 := HBud.out
              have : maxLen = 9223372036854775807 := rfl
              omega
            clear hgv hbnd htp
            go_wp2_with (at_mapUpdate; refine wpList_mapUpdate_own _ rfl _ _ _ 58 rfl 9 5 K Tryd.underlying58 _ mb (m + i * tP k) D' rfl hown2 hlm _ _ (.string l) rfl rfl hkey (.lit (.int .u8 120)) [] hv1 ?_; intro w3 hown3 hg3; have HW3 := Aside0.mk hown3; have HG3 := Aside0.mk hg3; clear hown3 hg3)
            go_ret
            have hfin := wins_end HPre.out HB1.out HI.out HBnd.out (by rw [HGV.out]; exact HW3.out) HG3.out
            rw [HGV.out] at hfin
            exact hfin

    · have hgv := gv_won h0
      have HGV := Aside0.mk hgv
      have hz : (winB n (bl l) == 0) = false := beq_eq_false_iff_ne.2 h0
      have hwf : (Lit.int .u8 (winB n (bl l))).wf = true := by rw [← hgv]; exact hwl
      have hv1 := hval _ hwf
      have hbnd : m + 1 ≤ m + tN (l.count 46) := by omega
      have HBnd := Aside0.mk hbnd
      have hlm : m < maxLen := by
        have h3 := HBud.out
        have : maxLen = 9223372036854775807 := rfl
        omega
      clear hbnd htp hgv h0 hwl
      generalize winB n (bl l) = wv at *
      rcases hpq with ⟨rfl, rfl⟩ | ⟨rfl, rfl⟩
      all_goals
        go_enter Tryd.func44, Tryd.ntmps44
        go_wp2_with (at_lookup; refine wpList_lookup_own_ok_int _ rfl _ _ 58 rfl 9 5 .u8 K Tryd.underlying58 Tryd.underlying5 (zeroU _) mb m D rfl hown _ _ rfl hkey ?_; intro c hat hwc; rw [hhas]; clear hat)
        refine HW.out.mono ?_
        rintro e w1 ⟨rfl, hb1⟩
        have HB1 := Aside0.mk hb1
        have HPre1 := Aside0.mk (HPre.out.later hb1)
        have hown2 : w1.ownsMap Tryd.prog 9 (plainElem Tryd.prog 5) mb m D := HPre1.out.own
        clear hb1 HW cg0 hcv hown
        go_wp2_with (at_mapUpdate; refine wpList_mapUpdate_own _ rfl _ _ _ 58 rfl 9 5 K Tryd.underlying58 _ mb m D rfl hown2 hlm _ _ (.string l) rfl rfl hkey (.lit (.int .u8 wv)) [] hv1 ?_; intro w3 hown3 hg3; have HW3 := Aside0.mk hown3; have HG3 := Aside0.mk hg3; clear hown3 hg3)
        go_ret
        have hfin := wins_end HPre.out HB1.out ⟨Keep.refl _ _, HPre1.out.byt, HPre1.out.own, HPre1.out.kn⟩ HBnd.out (by rw [HGV.out]; exact HW3.out) HG3.out
        rw [HGV.out] at hfin
        exact hfin
theorem wins_method (n g gb cb mb : Nat) : ∀ k, WinsAt n g gb cb mb k
  | 0 => fun l m w D p hc hp hpre => wins_at n g gb cb mb 0 (fun k' h => absurd h (by omega)) l m w D p (231 - p) hc hp (by rcases nxB_or l with e | e <;> rw [e] at hp <;> subst hp <;> simp) hpre
  | k + 1 => fun l m w D p hc hp hpre => wins_at n g gb cb mb (k + 1) (fun k' h => by
      obtain rfl : k' = k := by omega
      exact wins_method n g gb cb mb k') l m w D p (231 - p) hc hp (by rcases nxB_or l with e | e <;> rw [e] at hp <;> subst hp <;> simp) hpre
end Go.Proofs.YtlmgkmmdaecpdaaDoor.Im

namespace Go.Proofs.YtlmgkmmdaecpdaaDoor.Im
open Go.RowKit Go.Proofs.YtlmgkmmdaecpdaaDoorW.PrintWords Go.Proofs.YtlmgkmmdaecpdaaDoorW.PrintLast Go.Proofs.YtlmgkmmdaecpdaaDoorW.PrintMore Go.Proofs.YtlmgkmmdaecpdaaDoor.Mi
set_option linter.unusedVariables false
set_option linter.unusedSimpArgs false
def strW (v : Int) : ByteArray := if v = 120 then ⟨#[120]⟩ else ⟨#[111]⟩
instance (l : List UInt8) : Decidable (CntOk l) := by unfold CntOk; infer_instance
noncomputable def winsR (n : Int) (s : ByteArray) : ByteArray × Int :=
  if boE n s xodB = 0 then (if CntOk s.data.toList then (if s.data.toList.count 46 ≤ 9 then (strW (gv n.toNat s.data.toList), 0) else (⟨#[]⟩, 8)) else (⟨#[]⟩, 9)) else (⟨#[]⟩, boE n s xodB)
def WinsPost2 (n : Int) (s : ByteArray) (w : World) (e : Ending) (w' : World) : Prop := Below w.heap.size w w' ∧ e = .returned (.tuple #[.string (winsR n s).1, .int .i64 (winsR n s).2])
theorem tN_le : ∀ k, k ≤ 9 → tN k ≤ 9223372036854775807 := by decide
set_option maxHeartbeats 6400000 in
set_option maxRecDepth 100000 in
theorem wins_call (n : Int) (s : ByteArray) (w : World) (hst : Steps w) (hs : s.size ≤ 9223372036854775807) :
    Calls Tryd.prog 18 #[.int .i64 n, .string s] w (WinsPost2 n s w) := by
  have HBo := Aside0.mk (fun w => boarded_any n s xodB w hs (by decide) (by decide))
  have HS := Aside0.mk hst
  have hmk := @run_makeMap Tryd.prog
  have HCo := Aside0.mk (fun (c : UInt8) (w : World) => Tryd.strings_Count_one s c w)
  by_cases hE : boE n s xodB = 0
  · have hok := boE_ok hE
    have HE := Aside0.mk hE
    obtain ⟨m, rfl⟩ : ∃ m : Nat, n = m := ⟨n.toNat, by omega⟩
    have hsz : s.size = m * m := by have := hok.2.2; rw [Int.toNat_natCast] at this; exact this
    have hm1 : 1 ≤ m := by omega
    have hm11 : m ≤ 11 := by omega
    have hmm : m * m ≤ 121 := Nat.mul_le_mul hm11 hm11
    have hlen : s.data.toList.length = m * m := by rw [Array.length_toList]; exact hsz
    have HLen := Aside0.mk hlen
    have HSz := Aside0.mk hsz
    obtain ⟨cx, hcx⟩ : ∃ cx, s.data.toList.count 120 = cx := ⟨_, rfl⟩
    obtain ⟨co, hco⟩ : ∃ co, s.data.toList.count 111 = co := ⟨_, rfl⟩
    obtain ⟨cd, hcd⟩ : ∃ cd, s.data.toList.count 46 = cd := ⟨_, rfl⟩
    have lx : cx ≤ 121 := by have := List.count_le_length (a := (120 : UInt8)) (l := s.data.toList); omega
    have lo : co ≤ 121 := by have := List.count_le_length (a := (111 : UInt8)) (l := s.data.toList); omega
    have ld : cd ≤ 121 := by have := List.count_le_length (a := (46 : UInt8)) (l := s.data.toList); omega
    have HX : Aside0 (∀ w, Calls Tryd.prog 43 #[.string s, .string ⟨#[120]⟩] w fun e w' => e = .returned (.int .i64 (cx : Nat)) ∧ w' = w) := ⟨fun w => by have := HCo.out 120 w; unfold Lib.countByte at this; rw [hcx] at this; exact this⟩
    have HO : Aside0 (∀ w, Calls Tryd.prog 43 #[.string s, .string ⟨#[111]⟩] w fun e w' => e = .returned (.int .i64 (co : Nat)) ∧ w' = w) := ⟨fun w => by have := HCo.out 111 w; unfold Lib.countByte at this; rw [hco] at this; exact this⟩
    have HD : Aside0 (∀ w, Calls Tryd.prog 43 #[.string s, .string ⟨#[46]⟩] w fun e w' => e = .returned (.int .i64 (cd : Nat)) ∧ w' = w) := ⟨fun w => by have := HCo.out 46 w; unfold Lib.countByte at this; rw [hcd] at this; exact this⟩
    have HR1 : Aside0 ((cx = co ∨ cx = co + 1) → cd ≤ 9 → winsR m s = (strW (gv m s.data.toList), 0)) := ⟨fun h1 h2 => by
      unfold winsR
      rw [if_pos hE, if_pos (show CntOk s.data.toList by unfold CntOk; rw [hcx, hco]; exact h1), if_pos (by rw [hcd]; exact h2), Int.toNat_natCast]⟩
    have HR2 : Aside0 ((cx = co ∨ cx = co + 1) → ¬ cd ≤ 9 → winsR m s = (⟨#[]⟩, 8)) := ⟨fun h1 h2 => by
      unfold winsR
      rw [if_pos hE, if_pos (show CntOk s.data.toList by unfold CntOk; rw [hcx, hco]; exact h1), if_neg (by rw [hcd]; exact h2)]⟩
    have HR3 : Aside0 (¬ (cx = co ∨ cx = co + 1) → winsR m s = (⟨#[]⟩, 9)) := ⟨fun h1 => by
      unfold winsR
      rw [if_pos hE, if_neg (show ¬ CntOk s.data.toList by unfold CntOk; rw [hcx, hco]; exact h1)]⟩
    have HCX := Aside0.mk hcx
    have HCOO := Aside0.mk hco
    have HCD := Aside0.mk hcd
    have ww : wrap64 ((cx : Int) - (co : Int)) = (cx : Int) - (co : Int) := by unfold wrap64; omega
    unfold xodB at HBo HE
    clear hst hs hE hok hcx hco hcd hlen hsz HCo
    by_cases hA : cx = co ∨ cx = co + 1
    · by_cases hD : cd ≤ 9
      · have HRR : Aside0 (winsR m s = (strW (gv m s.data.toList), 0)) := ⟨HR1.out hA hD⟩
        have hdd : decide (9 < (cd : Int)) = false := decide_eq_false (by omega)
        have HDD := Aside0.mk hD
        have HAA := Aside0.mk hA
        clear HR1 HR2 HR3
        rcases hA with hA | hA
        · have t0 : (((cx : Int) - (co : Int)) == 0) = true := beq_iff_eq.2 (by omega)
          have hnx : ((nxB s.data.toList).toNat : Int) = 120 := by unfold nxB; rw [HCX.out, HCOO.out, if_neg (by omega)]; rfl
          have HNX := Aside0.mk hnx
          clear hnx hA
          go_enter Tryd.func18, Tryd.ntmps18
          go_wp2_with fail
          refine (HBo.out _).mono ?_
          rintro e w1 ⟨hb1, h1⟩
          rw [if_pos HE.out] at h1
          obtain ⟨g, gb, cb, rfl, hbr, hby, hgl, hgg⟩ := h1
          have HB1 := Aside0.mk hb1
          have HBr := Aside0.mk hbr
          have HBy := Aside0.mk hby
          have HG := Aside0.mk (And.intro hgl hgg)
          clear hb1 hbr hby hgl hgg
          go_wp2_with fail
          refine (HX.out _).mono ?_
          rintro e w2 ⟨rfl, rfl⟩
          go_wp2_with fail
          refine (HO.out _).mono ?_
          rintro e w2 ⟨rfl, rfl⟩
          go_wp2_with fail
          refine (HD.out _).mono ?_
          rintro e w2 ⟨rfl, rfl⟩
          go_wp2_with fail
          have hb2 : Below w2.heap.size w2 (w2.alloc (.map #[] 0)) := below_alloc (Below.refl _ _) _
          have hpre : WinsPre m g gb cb w2.heap.size 0 s.data.toList (w2.alloc (.map #[] 0)) (.map []) := by
            have h0 := HBr.out.later hb2
            rw [Int.toNat_natCast] at h0
            have hy : Byts w2 gb (m * m) (bl s.data.toList) := by have := HBy.out; rw [HSz.out] at this; exact this
            have hl0 : 0 < w.heap.size := Blk.lt HS.out
            have hlg : g < w2.heap.size := Blk.lt HBr.out.hd
            have hg := HG.out
            have hcd := HCD.out
            exact ⟨HS.out.later (below_then HB1.out HB1.out.size hb2), h0.hd, hy.later hb2, HLen.out, h0.n1, h0.n11, World.ownsMap_made w2 _ _ _, Known.nil m, by rw [Nat.zero_add]; exact tN_le _ (by rw [hcd]; exact HDD.out), by unfold CntOk; rw [HCX.out, HCOO.out]; exact HAA.out, by omega, by omega, by omega, by omega, by omega⟩
          have HW := Aside0.mk (wins_method m g gb cb w2.heap.size _ s.data.toList 0 _ (.map []) 120 rfl HNX.out hpre)
          have HK2 := Aside0.mk hb2
          clear hpre hb2
          have hgc := gv_cases m s.data.toList
          go_wp2_with fail
          refine HW.out.mono ?_
          rintro e w3 ⟨rfl, hk3, hby3, D3, ho3, hkn3⟩
          have HB3 : Aside0 (Below w.heap.size w w3) := ⟨by
            have hg := HG.out
            have h1 := below_then HB1.out HB1.out.size HK2.out
            have h2 := hk3.below (B := w.heap.size) h1.size (fun i hi => ⟨by omega, by have := HB1.out.size; omega⟩)
            exact h1.trans h2⟩
          clear hk3 hby3 ho3 hkn3 HW
          have hRR := HRR.out
          rcases hgc with hgc | hgc
          · rw [hgc] at hRR ⊢
            go_wp2_with fail
            go_ret2
            exact ⟨HB3.out, by rw [hRR]; rfl⟩
          · rw [hgc] at hRR ⊢
            go_wp2_with fail
            go_ret2
            exact ⟨HB3.out, by rw [hRR]; rfl⟩
        · have t0 : (((cx : Int) - (co : Int)) == 1) = true := beq_iff_eq.2 (by omega)
          have t1 : (((cx : Int) - (co : Int)) == 0) = false := beq_eq_false_iff_ne.2 (by omega)
          have hnx : ((nxB s.data.toList).toNat : Int) = 111 := by unfold nxB; rw [HCX.out, HCOO.out, if_pos (by omega)]; rfl
          have HNX := Aside0.mk hnx
          clear hnx hA
          go_enter Tryd.func18, Tryd.ntmps18
          go_wp2_with fail
          refine (HBo.out _).mono ?_
          rintro e w1 ⟨hb1, h1⟩
          rw [if_pos HE.out] at h1
          obtain ⟨g, gb, cb, rfl, hbr, hby, hgl, hgg⟩ := h1
          have HB1 := Aside0.mk hb1
          have HBr := Aside0.mk hbr
          have HBy := Aside0.mk hby
          have HG := Aside0.mk (And.intro hgl hgg)
          clear hb1 hbr hby hgl hgg
          go_wp2_with fail
          refine (HX.out _).mono ?_
          rintro e w2 ⟨rfl, rfl⟩
          go_wp2_with fail
          refine (HO.out _).mono ?_
          rintro e w2 ⟨rfl, rfl⟩
          go_wp2_with fail
          refine (HD.out _).mono ?_
          rintro e w2 ⟨rfl, rfl⟩
          go_wp2_with fail
          have hb2 : Below w2.heap.size w2 (w2.alloc (.map #[] 0)) := below_alloc (Below.refl _ _) _
          have hpre : WinsPre m g gb cb w2.heap.size 0 s.data.toList (w2.alloc (.map #[] 0)) (.map []) := by
            have h0 := HBr.out.later hb2
            rw [Int.toNat_natCast] at h0
            have hy : Byts w2 gb (m * m) (bl s.data.toList) := by have := HBy.out; rw [HSz.out] at this; exact this
            have hl0 : 0 < w.heap.size := Blk.lt HS.out
            have hlg : g < w2.heap.size := Blk.lt HBr.out.hd
            have hg := HG.out
            have hcd := HCD.out
            exact ⟨HS.out.later (below_then HB1.out HB1.out.size hb2), h0.hd, hy.later hb2, HLen.out, h0.n1, h0.n11, World.ownsMap_made w2 _ _ _, Known.nil m, by rw [Nat.zero_add]; exact tN_le _ (by rw [hcd]; exact HDD.out), by unfold CntOk; rw [HCX.out, HCOO.out]; exact HAA.out, by omega, by omega, by omega, by omega, by omega⟩
          have HW := Aside0.mk (wins_method m g gb cb w2.heap.size _ s.data.toList 0 _ (.map []) 111 rfl HNX.out hpre)
          have HK2 := Aside0.mk hb2
          clear hpre hb2
          have hgc := gv_cases m s.data.toList
          go_wp2_with fail
          refine HW.out.mono ?_
          rintro e w3 ⟨rfl, hk3, hby3, D3, ho3, hkn3⟩
          have HB3 : Aside0 (Below w.heap.size w w3) := ⟨by
            have hg := HG.out
            have h1 := below_then HB1.out HB1.out.size HK2.out
            have h2 := hk3.below (B := w.heap.size) h1.size (fun i hi => ⟨by omega, by have := HB1.out.size; omega⟩)
            exact h1.trans h2⟩
          clear hk3 hby3 ho3 hkn3 HW
          have hRR := HRR.out
          rcases hgc with hgc | hgc
          · rw [hgc] at hRR ⊢
            go_wp2_with fail
            go_ret2
            exact ⟨HB3.out, by rw [hRR]; rfl⟩
          · rw [hgc] at hRR ⊢
            go_wp2_with fail
            go_ret2
            exact ⟨HB3.out, by rw [hRR]; rfl⟩
      · have HRR : Aside0 (winsR m s = (⟨#[]⟩, 8)) := ⟨HR2.out hA hD⟩
        have hdd : decide (9 < (cd : Int)) = true := decide_eq_true (by omega)
        clear HR1 HR2 HR3
        rcases hA with hA | hA
        · have t0 : (((cx : Int) - (co : Int)) == 0) = true := beq_iff_eq.2 (by omega)
          clear hA
          go_enter Tryd.func18, Tryd.ntmps18
          go_wp2_with fail
          refine (HBo.out _).mono ?_
          rintro e w1 ⟨hb1, h1⟩
          rw [if_pos HE.out] at h1
          obtain ⟨g, gb, cb, rfl, hbr, hby, hgl, hgg⟩ := h1
          have HB1 := Aside0.mk hb1
          have HBr := Aside0.mk hbr
          have HBy := Aside0.mk hby
          have HG := Aside0.mk (And.intro hgl hgg)
          clear hb1 hbr hby hgl hgg
          go_wp2_with fail
          refine (HX.out _).mono ?_
          rintro e w2 ⟨rfl, rfl⟩
          go_wp2_with fail
          refine (HO.out _).mono ?_
          rintro e w2 ⟨rfl, rfl⟩
          go_wp2_with fail
          refine (HD.out _).mono ?_
          rintro e w2 ⟨rfl, rfl⟩
          go_wp2_with fail
          go_ret2
          exact ⟨HB1.out, by rw [HRR.out]; rfl⟩
        · have t0 : (((cx : Int) - (co : Int)) == 1) = true := beq_iff_eq.2 (by omega)
          have t1 : (((cx : Int) - (co : Int)) == 0) = false := beq_eq_false_iff_ne.2 (by omega)
          clear hA
          go_enter Tryd.func18, Tryd.ntmps18
          go_wp2_with fail
          refine (HBo.out _).mono ?_
          rintro e w1 ⟨hb1, h1⟩
          rw [if_pos HE.out] at h1
          obtain ⟨g, gb, cb, rfl, hbr, hby, hgl, hgg⟩ := h1
          have HB1 := Aside0.mk hb1
          have HBr := Aside0.mk hbr
          have HBy := Aside0.mk hby
          have HG := Aside0.mk (And.intro hgl hgg)
          clear hb1 hbr hby hgl hgg
          go_wp2_with fail
          refine (HX.out _).mono ?_
          rintro e w2 ⟨rfl, rfl⟩
          go_wp2_with fail
          refine (HO.out _).mono ?_
          rintro e w2 ⟨rfl, rfl⟩
          go_wp2_with fail
          refine (HD.out _).mono ?_
          rintro e w2 ⟨rfl, rfl⟩
          go_wp2_with fail
          go_ret2
          exact ⟨HB1.out, by rw [HRR.out]; rfl⟩
    · have HRR : Aside0 (winsR m s = (⟨#[]⟩, 9)) := ⟨HR3.out hA⟩
      have t0 : (((cx : Int) - (co : Int)) == 0) = false := beq_eq_false_iff_ne.2 (by omega)
      have t1 : (((cx : Int) - (co : Int)) == 1) = false := beq_eq_false_iff_ne.2 (by omega)
      clear hA HR1 HR2 HR3
      go_enter Tryd.func18, Tryd.ntmps18
      go_wp2_with fail
      refine (HBo.out _).mono ?_
      rintro e w1 ⟨hb1, h1⟩
      rw [if_pos HE.out] at h1
      obtain ⟨g, gb, cb, rfl, hbr, hby, hgl, hgg⟩ := h1
      have HB1 := Aside0.mk hb1
      have HBr := Aside0.mk hbr
      have HBy := Aside0.mk hby
      have HG := Aside0.mk (And.intro hgl hgg)
      clear hb1 hbr hby hgl hgg
      go_wp2_with fail
      refine (HX.out _).mono ?_
      rintro e w2 ⟨rfl, rfl⟩
      go_wp2_with fail
      refine (HO.out _).mono ?_
      rintro e w2 ⟨rfl, rfl⟩
      go_wp2_with fail
      go_ret2
      exact ⟨HB1.out, by rw [HRR.out]; rfl⟩
  · have HR : Aside0 (∀ w', Below w.heap.size w w' → WinsPost2 n s w (.returned (.tuple #[.string ⟨#[]⟩, .int .i64 (boE n s xodB)])) w') := ⟨fun w' hb => ⟨hb, by unfold winsR; rw [if_neg hE]⟩⟩
    have HBo2 := Aside0.mk (fun w1 e w2 (h : BoardedPost n s xodB w1 e w2) => (show e = .returned (.tuple #[.pointer none, .int .i64 (boE n s xodB)]) ∧ Below w1.heap.size w1 w2 by
      unfold BoardedPost at h
      rw [if_neg hE] at h
      exact ⟨h.2, h.1⟩))
    have hz : (boE n s xodB == 0) = false := beq_eq_false_iff_ne.2 hE
    unfold xodB at *
    clear hst hs hE HCo
    generalize boE n s ⟨#[120, 111, 46]⟩ = z at *
    go_enter Tryd.func18, Tryd.ntmps18
    go_wp2_with fail
    refine (HBo.out _).mono ?_
    intro e w1 h1
    obtain ⟨rfl, hb1⟩ := HBo2.out _ _ _ h1
    have HB1 := Aside0.mk hb1
    clear h1 hb1
    go_wp2_with fail
    go_ret2
    exact HR.out _ HB1.out
end Go.Proofs.YtlmgkmmdaecpdaaDoor.Im

namespace Go.Proofs.YtlmgkmmdaecpdaaDoor.Im
open Go.RowKit Go.Proofs.YtlmgkmmdaecpdaaDoorW.PrintWords Go.Proofs.YtlmgkmmdaecpdaaDoorW.PrintLast Go.Proofs.YtlmgkmmdaecpdaaDoorW.PrintMore Go.Proofs.YtlmgkmmdaecpdaaDoor.Mi
set_option linter.unusedVariables false
theorem winB_zero {n : Nat} {bs : List Int} (h1 : brO n bs 120 = none) (h2 : brO n bs 111 = none) : winB n bs = 0 := by unfold winB; rw [h1, h2]; rfl
theorem winB_x {n : Nat} {bs : List Int} (h : (brO n bs 120).isSome = true) : winB n bs = 120 := by unfold winB; rw [if_pos h]
theorem gv_x {n : Nat} {l : List UInt8} (h : (brO n (bl l) 120).isSome = true) : gv n l = 120 := by rw [gv_won (by rw [winB_x h]; decide), winB_x h]
theorem w12 {bs : List Int} (h1 : okP bs 120 1) (h2 : okP bs 120 2) : (brO 2 bs 120).isSome = true :=
  brO_ex (P := [1, 2]) ⟨by simp, ⟨by decide, trivial⟩, fun p hp => by
    simp at hp
    rcases hp with rfl | rfl
    · exact ⟨by omega, h1⟩
    · exact ⟨by omega, h2⟩, by show enP 2 120 2; decide⟩ (by show beP 2 120 1; decide)
theorem w13 {bs : List Int} (h1 : okP bs 120 1) (h2 : okP bs 120 3) : (brO 2 bs 120).isSome = true :=
  brO_ex (P := [1, 3]) ⟨by simp, ⟨by decide, trivial⟩, fun p hp => by
    simp at hp
    rcases hp with rfl | rfl
    · exact ⟨by omega, h1⟩
    · exact ⟨by omega, h2⟩, by show enP 2 120 3; decide⟩ (by show beP 2 120 1; decide)
theorem al_gv0 : gv 2 [111, 120, 46, 46] = 120 :=
  gv_move (winB_zero (brO_closed [1] (by decide) (by decide) (by decide)) (brO_closed [0] (by decide) (by decide) (by decide))) (i := 2) rfl (gv_x (w12 (by decide) (by decide)))
theorem al_gv2 : gv 2 [46, 120, 111, 46] = 120 :=
  gv_move (winB_zero (brO_closed [1] (by decide) (by decide) (by decide)) (brO_closed [2] (by decide) (by decide) (by decide))) (i := 3) rfl (gv_x (w13 (by decide) (by decide)))
theorem al_gv3 : gv 2 [46, 120, 46, 111] = 120 :=
  gv_move (winB_zero (brO_closed [1] (by decide) (by decide) (by decide)) (brO_closed [] (by decide) (by decide) (by decide))) (i := 2) rfl (gv_x (w12 (by decide) (by decide)))
theorem al_gv1 : gv 2 [46, 120, 46, 46] = 120 := by
  have h := gv_no (n := 2) (l := [46, 120, 46, 46]) (winB_zero (brO_closed [1] (by decide) (by decide) (by decide)) (brO_closed [] (by decide) (by decide) (by decide))) (fun i hi => by
    match i, hi with
    | 0, _ => show gv 2 [111, 120, 46, 46] ≠ 111; rw [al_gv0]; decide
    | 1, hi => exact absurd hi (by decide)
    | 2, _ => show gv 2 [46, 120, 111, 46] ≠ 111; rw [al_gv2]; decide
    | 3, _ => show gv 2 [46, 120, 46, 111] ≠ 111; rw [al_gv3]; decide
    | i + 4, hi => simp at hi)
  rw [h]; rfl
theorem al_gv : gv 2 [46, 46, 46, 46] = 120 := gv_move (winB_zero (brO_closed [] (by decide) (by decide) (by decide)) (brO_closed [] (by decide) (by decide) (by decide))) (i := 1) rfl al_gv1
end Go.Proofs.YtlmgkmmdaecpdaaDoor.Im

namespace Go.Proofs.YtlmgkmmdaecpdaaDoor.Im
open Go.RowKit Go.Proofs.YtlmgkmmdaecpdaaDoorW.PrintWords Go.Proofs.YtlmgkmmdaecpdaaDoorW.PrintLast Go.Proofs.YtlmgkmmdaecpdaaDoorW.PrintMore Go.Proofs.YtlmgkmmdaecpdaaDoor.Mi
set_option linter.unusedVariables false
theorem al_c : ∀ a, a < 4 → coC [46, 46, 46, 46] (cost0 120) a = 1 := by decide
theorem al_need : needO 2 [46, 46, 46, 46] 120 = some 2 := needO_some {
  real := ⟨[0, 2], ⟨by simp, ⟨by decide, trivial⟩, fun p hp => by
    simp at hp
    rcases hp with rfl | rfl
    · exact ⟨by omega, by unfold okC; decide⟩
    · exact ⟨by omega, by unfold okC; decide⟩, by show enP 2 120 2; decide⟩, by show beP 2 120 0; decide, by decide⟩
  le := fun P h hb => by
    match P, h, hb with
    | [], h, _ => exact absurd rfl h.ne
    | [p], h, hb =>
      have hm := (h.mem p List.mem_cons_self).1
      have h1 : beP 2 120 p := hb
      have h2 : enP 2 120 p := h.fin
      unfold beP at h1
      unfold enP at h2
      omega
    | p :: q :: t, h, hb =>
      have h1 := al_c p (h.mem p List.mem_cons_self).1
      have h2 := al_c q (h.mem q (List.mem_cons_of_mem _ List.mem_cons_self)).1
      show 2 ≤ coC _ _ p + (coC _ _ q + costN _ t)
      rw [h1, h2]
      omega }
theorem al_way : WyP 2 [120, 111, 111, 120] 111 [2, 1] := ⟨by simp, ⟨by decide, trivial⟩, fun p hp => by
    simp at hp
    rcases hp with rfl | rfl
    · exact ⟨by omega, by decide⟩
    · exact ⟨by omega, by decide⟩, by show enP 2 111 1; decide⟩
theorem al_be : ∀ a, a < 4 → okP [120, 111, 111, 120] 111 a → beP 2 111 a → a = 2 := by decide
theorem al_two {P : List Nat} (h : WyP 2 [120, 111, 111, 120] 111 P) (hb : beP 2 111 (headN P)) : 2 ≤ P.length := by
  match P, h, hb with
  | [], h, _ => exact absurd rfl h.ne
  | [p], h, hb =>
    have h1 : beP 2 111 p := hb
    have h2 : enP 2 111 p := h.fin
    unfold beP at h1
    unfold enP at h2
    omega
  | p :: q :: t, h, hb => simp
theorem al_dist {a d : Nat} (hb : beP 2 111 a) (h : DistP 2 [120, 111, 111, 120] 111 a d) : 2 ≤ d := by
  obtain ⟨P, h1, h2, h3⟩ := h.real
  rw [cost_one] at h3
  have := al_two h1 (by rw [h2]; exact hb)
  omega
theorem al_first : FirstP 2 [120, 111, 111, 120] 111 [2, 1] where
  way := al_way
  start := by show beP 2 111 2; decide
  dist := ⟨⟨[2, 1], al_way, rfl, rfl⟩, fun P hP hh => by
    rw [cost_one]
    exact al_two hP (by rw [hh]; show beP 2 111 2; decide)⟩
  short := fun a d hb h => al_dist hb h
  least := fun a hb h => by
    obtain ⟨P, h1, h2, _⟩ := h.real
    have hm : headN P ∈ P := by
      cases P with
      | nil => exact absurd rfl h1.ne
      | cons x t => exact List.mem_cons_self
    have h3 := h1.mem _ hm
    rw [h2] at h3
    have := al_be a h3.1 h3.2 hb
    show 2 ≤ a
    omega
  greedy := ⟨⟨by decide, fun j hj h => by
    obtain ⟨P, h1, h2, _⟩ := h.real
    have hm : headN P ∈ P := by
      cases P with
      | nil => exact absurd rfl h1.ne
      | cons x t => exact List.mem_cons_self
    have h3 := h1.mem _ hm
    rw [h2] at h3
    have h4 : j ≠ 0 := fun e => by
      have := h3.2
      rw [e] at this
      exact absurd this (by decide)
    omega⟩, trivial⟩
theorem al_bridge : brO 2 [120, 111, 111, 120] 111 = some [2, 1] := brO_some al_first
theorem al_winB : winB 2 [120, 111, 111, 120] = 111 := by unfold winB; rw [al_ox, al_bridge]; rfl
end Go.Proofs.YtlmgkmmdaecpdaaDoor.Im

namespace Go.Proofs.YtlmgkmmdaecpdaaDoor.Im
open Go.RowKit Go.Proofs.YtlmgkmmdaecpdaaDoorW.PrintWords Go.Proofs.YtlmgkmmdaecpdaaDoorW.PrintLast Go.Proofs.YtlmgkmmdaecpdaaDoorW.PrintMore Go.Proofs.YtlmgkmmdaecpdaaDoor.Mi
set_option linter.unusedVariables false
theorem al_f (w : World) : Calls Tryd.prog 28 #[.int .i64 1, .string ⟨#[48, 50, 49]⟩] w fun e w' => Below w.heap.size w w' ∧ ∃ v, e = .returned (.tuple #[v, .int .i64 0]) ∧ Kd.R (Kd.slice 3 (Kd.int .i64)) 34 w' w.heap.size (fun _ => True) v [[0, 0, 0]] := by
  refine (full_call 1 ⟨#[48, 50, 49]⟩ w (by decide)).mono ?_
  rintro e w' ⟨h1, h2⟩
  rw [if_pos al_err] at h2
  obtain ⟨v, h3, h4⟩ := h2
  exact ⟨h1, v, h3, by have := h4; rw [show fulL (1 : Int).toNat (⟨#[48, 50, 49]⟩ : ByteArray).data.toList = [[0, 0, 0]] from al_full] at this; exact this⟩
theorem al_t (w : World) (mL : Int) (hm : w.cell? ⟨1, 0, none⟩ = some (.int .i64 mL)) : Calls Tryd.prog 31 #[.int .i64 1, .string ⟨#[48, 50, 49]⟩] w fun e w' => Below w.heap.size w w' ∧ e = .returned (.tuple #[.int .i64 1, .int .i64 0, .int .i64 0]) := by
  refine (turns_call 1 ⟨#[48, 50, 49]⟩ w (by decide) mL hm).mono ?_
  rintro e w' ⟨h1, h2⟩
  rw [if_pos al_err, show rigL (1 : Int).toNat (⟨#[48, 50, 49]⟩ : ByteArray).data.toList = 1 from al_rig, show lefL (1 : Int).toNat (⟨#[48, 50, 49]⟩ : ByteArray).data.toList = 0 from al_lef] at h2
  exact ⟨h1, h2⟩
theorem al_n (w : World) (hst : Steps w) : Calls Tryd.prog 20 #[.int .i64 2, .string ⟨#[46, 46, 46, 46]⟩, .string ⟨#[120]⟩] w fun e w' => Below w.heap.size w w' ∧ e = .returned (.tuple #[.int .i64 2, .int .i64 0]) := by
  refine (needs_call 2 ⟨#[46, 46, 46, 46]⟩ ⟨#[120]⟩ w hst (by decide)).mono ?_
  rintro e w' ⟨h1, h2⟩
  refine ⟨h1, ?_⟩
  rw [h2, show needsR 2 ⟨#[46, 46, 46, 46]⟩ ⟨#[120]⟩ = (2, 0) from by
    unfold needsR
    rw [if_pos (by decide), if_pos (by unfold plB; rw [ByteArray.toList_mk]; rfl), show needO (2 : Int).toNat (bsOf ⟨#[46, 46, 46, 46]⟩) (bt ⟨#[120]⟩ 0) = some 2 from al_need]
    rfl]
theorem al_w (w : World) (hst : Steps w) : Calls Tryd.prog 18 #[.int .i64 2, .string ⟨#[46, 46, 46, 46]⟩] w fun e w' => Below w.heap.size w w' ∧ e = .returned (.tuple #[.string ⟨#[120]⟩, .int .i64 0]) := by
  refine (wins_call 2 ⟨#[46, 46, 46, 46]⟩ w hst (by decide)).mono ?_
  rintro e w' ⟨h1, h2⟩
  refine ⟨h1, ?_⟩
  rw [h2, show winsR 2 ⟨#[46, 46, 46, 46]⟩ = (⟨#[120]⟩, 0) from by
    unfold winsR
    rw [if_pos (by decide), if_pos (by decide), if_pos (by decide), show gv (2 : Int).toNat (⟨#[46, 46, 46, 46]⟩ : ByteArray).data.toList = 120 from al_gv]
    rfl]
theorem al_v (w : World) (hst : Steps w) : Calls Tryd.prog 24 #[.int .i64 2, .string ⟨#[120, 111, 111, 120]⟩] w fun e w' => Below w.heap.size w w' ∧ ∃ A c, e = .returned (.tuple #[.string ⟨#[111]⟩, .slice (some A) 2 c, .int .i64 0]) ∧ Kd.R (Kd.int .i64) 3 w' w.heap.size (fun _ => True) (.slice (some A) 2 c) [2, 1] := by
  refine (winner_call 2 ⟨#[120, 111, 111, 120]⟩ w hst (by decide)).mono ?_
  rintro e w' ⟨h1, h2⟩
  rw [if_pos (by decide)] at h2
  obtain ⟨G, A, c, h3, h4, h5⟩ := h2
  rw [show winB (2 : Int).toNat (bsOf ⟨#[120, 111, 111, 120]⟩) = 111 from al_winB] at h3 h4
  rw [show brO (2 : Int).toNat (bsOf ⟨#[120, 111, 111, 120]⟩) 111 = some [2, 1] from al_bridge] at h3
  cases h3
  exact ⟨h1, A, c, h4, h5⟩
end Go.Proofs.YtlmgkmmdaecpdaaDoor.Im

namespace Go.Proofs.YtlmgkmmdaecpdaaDoor.Im
open Go.RowKit Go.Proofs.YtlmgkmmdaecpdaaDoorW.PrintWords Go.Proofs.YtlmgkmmdaecpdaaDoorW.PrintLast Go.Proofs.YtlmgkmmdaecpdaaDoorW.PrintMore Go.Proofs.YtlmgkmmdaecpdaaDoor.Mi
set_option linter.unusedVariables false
set_option maxHeartbeats 6400000 in
set_option maxRecDepth 100000 in
theorem alive_any (w : World) (hst : Steps w) (mL : Int) (hm : w.cell? ⟨1, 0, none⟩ = some (.int .i64 mL)) : Calls Tryd.prog 17 #[] w fun e w' => e = .returned (.bool true) ∧ Below w.heap.size w w' := by
  have HS := Aside0.mk hst
  have HM := Aside0.mk hm
  clear hst hm
  go_enter Tryd.func17, Tryd.ntmps17
  go_wp2_with fail
  refine (al_f _).mono ?_
  rintro e w1 ⟨hb1, v1, rfl, hR1⟩
  have HB1 := Aside0.mk hb1
  have HR1 := Aside0.mk hR1
  clear hb1 hR1
  go_wp2_with fail
  refine (al_t _ mL ((HB1.out.cell (World.block_lt_of_cell? w _ HM.out)).trans HM.out)).mono ?_
  rintro e w2 ⟨hb2, rfl⟩
  have HB2 := Aside0.mk (below_then HB1.out HB1.out.size hb2)
  have HR2 := Aside0.mk (Kd.R_below HR1.out hb2)
  clear hb2 HB1 HR1
  go_wp2_with fail
  refine (al_v _ (HS.out.later HB2.out)).mono ?_
  rintro e w3 ⟨hb3, A3, c3, rfl, hR3⟩
  have HB3 := Aside0.mk (below_then HB2.out HB2.out.size hb3)
  have HR3 := Aside0.mk (Kd.R_below HR2.out hb3)
  have HV3 := Aside0.mk hR3
  clear hb3 hR3 HB2 HR2
  go_wp2_with fail
  refine (al_n _ (HS.out.later HB3.out)).mono ?_
  rintro e w4 ⟨hb4, rfl⟩
  have HB4 := Aside0.mk (below_then HB3.out HB3.out.size hb4)
  have HR4 := Aside0.mk (Kd.R_below HR3.out hb4)
  have HV4 := Aside0.mk (Kd.R_below HV3.out hb4)
  clear hb4 HB3 HR3 HV3
  go_wp2_with fail
  refine (al_w _ (HS.out.later HB4.out)).mono ?_
  rintro e w5 ⟨hb5, rfl⟩
  have HB5 := Aside0.mk (below_then HB4.out HB4.out.size hb5)
  have HR5 := Aside0.mk (Kd.R_below HR4.out hb5)
  have HV5 := Aside0.mk (Kd.R_below HV4.out hb5)
  clear hb5 HB4 HR4 HV4
  obtain ⟨g1, c1, rfl, _, _, _⟩ := Kd.R_form HR5.out (by decide)
  obtain ⟨_, _, hC1⟩ := Kd.R_reads' HR5.out
  obtain ⟨ad, A0, c0, e0, hcell, hlc, hC0⟩ := at_L3 hC1 0 (by decide) (by decide)
  cases e0
  have hc1 : w5.cell? ⟨g1, 0, none⟩ = some (.slice A0 3 c0) := hcell
  have HC0 := Aside0.mk hC0
  have hlc' : 3 ≤ c0 := hlc
  clear hcell hC1 hC0 hlc HR5
  go_wp2_with fail
  have hba : Below w5.heap.size w5 (w5.alloc (.cells #[.int .i64 0, .int .i64 0, .int .i64 0] 3)) := below_alloc (Below.refl _ _) _
  refine (same_any [0, 0, 0] [0, 0, 0] A0 (some ⟨w5.heap.size, 0, none⟩) c0 3 _ (by decide) (Kd.C_below HC0.out hba) hlc' (C_i3 w5 0 0 0) (by decide)).mono ?_
  rintro e w6 ⟨rfl, hb6⟩
  have hbw := below_then hba hba.size hb6
  have HB6 := Aside0.mk (below_then HB5.out HB5.out.size hbw)
  have HV6 := Aside0.mk (Kd.R_below HV5.out hbw)
  clear hba hb6 hbw HB5 HV5 HC0
  obtain ⟨hn3, hl3, hC3⟩ := Kd.R_reads' HV6.out
  have HC3 := Aside0.mk hC3
  have hl3' : 2 ≤ c3 := hl3
  clear hn3 hl3 hC3
  go_wp2_with fail
  have hbb : Below w6.heap.size w6 (w6.alloc (.cells #[.int .i64 2, .int .i64 1] 3)) := below_alloc (Below.refl _ _) _
  refine (same_any [2, 1] [2, 1] (some A3) (some ⟨w6.heap.size, 0, none⟩) c3 2 _ (by decide) (Kd.C_below HC3.out hbb) hl3' (C_i2 w6 2 1) (by decide)).mono ?_
  rintro e w7 ⟨rfl, hb7⟩
  have HB7 := Aside0.mk (below_then HB6.out HB6.out.size (below_then hbb hbb.size hb7))
  clear hb7 hbb HB6 HV6
  go_wp2_with fail
  go_ret
  exact ⟨rfl, HB7.out⟩
end Go.Proofs.YtlmgkmmdaecpdaaDoor.Im

namespace Go.Proofs.YtlmgkmmdaecpdaaDoor.Im
open Go.RowKit Go.Proofs.YtlmgkmmdaecpdaaDoorW.PrintWords Go.Proofs.YtlmgkmmdaecpdaaDoorW.PrintLast Go.Proofs.YtlmgkmmdaecpdaaDoorW.PrintMore
attribute [local go_sem] max2_int min2_int max_two min_two max_three min_three max_four min_four
set_option linter.unusedVariables false
set_option linter.unusedSimpArgs false
def pomadelaw04_flipped.l0 : Nat → Int → ByteArray → List Int → Int → Option (ByteArray)
  | 0, _, _, _, _ => none
  | k + 1, x0, x1, x5, x6 => if x6 < (x1.size : Int) then (if 0 ≤ x6 then (if (bt x1 x6) = 120 then (if x0 = 0 then (none) else (if 0 ≤ (wrap64 ((wrap64 ((Int.tmod x6 x0) * x0)) + (wrap64 (Int.tdiv x6 x0)))) then (if (wrap64 ((wrap64 ((Int.tmod x6 x0) * x0)) + (wrap64 (Int.tdiv x6 x0)))) < (x5.length : Int) then (pomadelaw04_flipped.l0 k x0 x1 (x5.set ((wrap64 ((wrap64 ((Int.tmod x6 x0) * x0)) + (wrap64 (Int.tdiv x6 x0)))) : Int).toNat 111) (wrap64 (x6 + 1))) else (none)) else (none))) else (if (bt x1 x6) = 111 then (if x0 = 0 then (none) else (if 0 ≤ (wrap64 ((wrap64 ((Int.tmod x6 x0) * x0)) + (wrap64 (Int.tdiv x6 x0)))) then (if (wrap64 ((wrap64 ((Int.tmod x6 x0) * x0)) + (wrap64 (Int.tdiv x6 x0)))) < (x5.length : Int) then (pomadelaw04_flipped.l0 k x0 x1 (x5.set ((wrap64 ((wrap64 ((Int.tmod x6 x0) * x0)) + (wrap64 (Int.tdiv x6 x0)))) : Int).toNat 120) (wrap64 (x6 + 1))) else (none)) else (none))) else (if x0 = 0 then (none) else (if 0 ≤ (wrap64 ((wrap64 ((Int.tmod x6 x0) * x0)) + (wrap64 (Int.tdiv x6 x0)))) then (if (wrap64 ((wrap64 ((Int.tmod x6 x0) * x0)) + (wrap64 (Int.tdiv x6 x0)))) < (x5.length : Int) then (pomadelaw04_flipped.l0 k x0 x1 (x5.set ((wrap64 ((wrap64 ((Int.tmod x6 x0) * x0)) + (wrap64 (Int.tdiv x6 x0)))) : Int).toNat (bt x1 x6)) (wrap64 (x6 + 1))) else (none)) else (none))))) else (none)) else (some (strOfNums x5))
def pomadelaw04_flipped.f (k : Nat) (a0 : Int) (a1 : ByteArray) : Option (ByteArray) := if 0 ≤ (a1.size : Int) then (if ((a1.size : Int) : Int).toNat ≤ 281474976710656 then (pomadelaw04_flipped.l0 k a0 a1 (List.replicate ((a1.size : Int) : Int).toNat 0) 0) else (none)) else (none)
theorem pomadelaw04_flipped.mono_l : ∀ k, (∀ y0 y1 y2 y3, LeO (pomadelaw04_flipped.l0 k y0 y1 y2 y3) (pomadelaw04_flipped.l0 (k + 1) y0 y1 y2 y3))
  | 0 => fun _ _ _ _ r h => by simp [pomadelaw04_flipped.l0] at h
  | k + 1 => by
    have ih0 := pomadelaw04_flipped.mono_l k
    · intro y0 y1 y2 y3
      unfold pomadelaw04_flipped.l0
      repeat' first
      | (with_reducible exact ih0 _ _ _ _)
      | (with_reducible exact LeO.refl _)
      | (with_reducible exact LeO.none _)
      | (with_reducible refine LeO.ite ?_ ?_)
      | (with_reducible refine LeO.bind ?_ (fun _ => ?_))
      | exact ih0 _ _ _ _
      | exact LeO.none _
      | refine LeO.ite ?_ ?_
      | refine LeO.bind ?_ (fun _ => ?_)
theorem pomadelaw04_flipped.mono : ∀ a0 a1 k, LeO (pomadelaw04_flipped.f k a0 a1) (pomadelaw04_flipped.f (k + 1) a0 a1) := by
  intro a0 a1 k
  have ih0 := pomadelaw04_flipped.mono_l k
  unfold pomadelaw04_flipped.f
  repeat' first
      | (with_reducible exact ih0 _ _ _ _)
      | (with_reducible exact LeO.refl _)
      | (with_reducible exact LeO.none _)
      | (with_reducible refine LeO.ite ?_ ?_)
      | (with_reducible refine LeO.bind ?_ (fun _ => ?_))
      | exact ih0 _ _ _ _
      | exact LeO.none _
      | refine LeO.ite ?_ ?_
      | refine LeO.bind ?_ (fun _ => ?_)
def pomadelaw04_flipped.T10 : Bool × List (List Nat × List Nat) := (true, [([], []), ([], []), ([], []), ([1, 2], [1, 2]), ([], []), ([3, 4], [3, 4]), ([], []), ([], []), ([6, 7], [6, 7]), ([5, 8], [5, 8]), ([], []), ([0, 9, 0, 1, 2, 3, 4, 5, 6, 7, 8, 9, 10], [0, 9]), ([11, 10, 0, 1, 2, 3, 4, 5, 6, 7, 8, 9, 10], [10, 11])])
def pomadelaw04_flipped.B10 : List Nat := [0, 0, 0, 6, 0, 30, 0, 0, 192, 510, 0, 2047, 4095]
theorem pomadelaw04_flipped.tab10 : rtab .any (opsOf Tryd.f23 10) = pomadelaw04_flipped.T10 := by kernel_rfl
theorem pomadelaw04_flipped.bits10 : waitsOk pomadelaw04_flipped.T10.2 pomadelaw04_flipped.B10 = true := by kernel_rfl
set_option maxHeartbeats 8000000 in
set_option maxRecDepth 100000 in
theorem pomadelaw04_flipped.calls (k : Nat) (a0 : Int) (a1 : ByteArray) (r : ByteArray) (w : World) (h : pomadelaw04_flipped.f k a0 a1 = some r) :
    Calls Tryd.prog 23 #[.int .i64 a0, .string a1] w fun e w' => e = .returned (.string r) ∧ Below w.heap.size w w' := by
  have HB := Aside0.mk (Below.refl w.heap.size w)
  have H : (if 0 ≤ (a1.size : Int) then (if ((a1.size : Int) : Int).toNat ≤ 281474976710656 then (pomadelaw04_flipped.l0 k a0 a1 (List.replicate ((a1.size : Int) : Int).toNat 0) 0) else (none)) else (none)) = some r := h
  clear h
  by_cases c3 : 0 ≤ (a1.size : Int)
  · rw [if_pos c3] at H
    have c3b0 := eq_true c3
    have c3b1 : decide (0 ≤ (a1.size : Int)) = true := decide_eq_true c3
    clear c3
    by_cases c4 : ((a1.size : Int) : Int).toNat ≤ 281474976710656
    · rw [if_pos c4] at H
      have c4b0 := eq_true c4
      have c4b1 : decide (((a1.size : Int) : Int).toNat ≤ 281474976710656) = true := decide_eq_true c4
      clear c4
      obtain ⟨y234, hy234⟩ : ∃ y_ : List Int, y_ = (List.replicate ((a1.size : Int) : Int).toNat 0) := ⟨_, rfl⟩
      replace H : (pomadelaw04_flipped.l0 k a0 a1 y234 0) = some r := by first | (rw [hy234]; with_reducible exact H) | (have H2_ := (Option.bind_some _ _).symm.trans H; rw [hy234]; with_reducible exact H2_) | (have H2_ := (Option.bind_some _ _).symm.trans H; with_reducible exact H2_) | with_reducible exact H | (rw [hy234]; exact H) | exact H
      have Ny234 := Aside0.mk hy234
      clear hy234
      have H' := Aside0.mk H
      clear H
      go_enter Tryd.func23, Tryd.ntmps23
      go_wp2_with (first | ((with_reducible refine gate_dst (N := 10) rfl ?_); refine Kd.R_make (Kd.int .u8) _ 5 rfl (N := 10) rfl 60 _ _ rfl (a1.size : Int) rfl rfl Tryd.underlying60 (.int .u8 0) 1 info5 rfl (by decide) (by omega) 0 (ok := fun _ => True) (okp := fun _ => True) rfl (fun _ hk => hk) trivial (of_decide_eq_true (by first | (with_reducible assumption) | assumption)) (Nat.le_trans (Nat.mul_le_mul_right _ (of_decide_eq_true (by first | (with_reducible assumption) | assumption) : (a1.size : Int).toNat ≤ 281474976710656)) (by omega)) (Below.refl _ _) (Nat.le_refl _) ?_; intro v235 w5 ho6 hb hg_ hnew_; clear hg_ hnew_; (first | rw [← Ny234.out] at ho6 | (simp only [Int.reduceToNat] at ho6; rw [← Ny234.out] at ho6)); have n0_ := Aside0.mk (Kd.R_lower ho6 (below_size (by repeat (first | (with_reducible first | exact HB.out | apply below_alloc | apply pw_below_drewN | apply below_drew1) | exact HB.out)))); have n1_ := Aside0.mk (below_step (by repeat (first | (with_reducible first | exact HB.out | apply below_alloc | apply pw_below_drewN | apply below_drew1) | exact HB.out)) hb); clear HB; have HO236 := n0_; have HB := n1_; clear n0_ n1_; clear hb ho6))
      go_loopg [6] k (fun kq v6 w' => ∃ (x5_1 : List Int) (x6_1 : Int), v6 = .int .i64 x6_1 ∧ Aside0 (pomadelaw04_flipped.l0 kq a0 a1 x5_1 x6_1 = some r) ∧ Aside0 (kq ≤ k) ∧ Aside0 (Kd.R (Kd.int .u8) 5 w' w.heap.size (fun _ => True) v235 x5_1) ∧ Aside0 (Below w.heap.size w w'))
      case atStart => exact ⟨(y234), (0), (by first | rfl | (simp; done) | (simp [*]; done)), H', ⟨Nat.le_refl _⟩, ⟨by (with_reducible repeat (first | apply Kd.R_alloc | apply Kd.R_drewN | apply Kd.R_drew)); exact HO236.out⟩, ⟨by repeat (first | (with_reducible first | exact HB.out | apply below_alloc | apply pw_below_drewN | apply below_drew1) | exact HB.out)⟩⟩
      case round =>
        clear H'
        try clear c2
        try clear p2
        try clear c3
        try clear c3b0
        try clear c3b1
        try clear c4
        try clear c4b0
        try clear c4b1
        obtain ⟨x5_1, x6_1, rfl, HA, HK1, HO_5, HB⟩ := hrel
        cases gk with
        | zero => exact absurd HA.out (by simp [pomadelaw04_flipped.l0])
        | succ k1 =>
          have H := HA.out
          clear HA
          simp only [pomadelaw04_flipped.l0] at H
          by_cases c7 : x6_1 < (a1.size : Int)
          · rw [if_pos c7] at H
            have c7b0 : decide (x6_1 < (a1.size : Int)) = true := decide_eq_true c7
            clear c7
            by_cases c8 : 0 ≤ x6_1
            · rw [if_pos c8] at H
              have c8b0 : decide (0 ≤ x6_1) = true := decide_eq_true c8
              clear c8
              by_cases c10 : (bt a1 x6_1) = 120
              · rw [if_pos c10] at H
                have c10b0 : ((bt a1 x6_1) == 120) = true := beq_iff_eq.mpr c10
                have c10b1 : ((bt a1 x6_1) != 120) = false := bne_eq_false_iff_eq.mpr c10
                clear c10
                by_cases c11 : a0 = 0
                · rw [if_pos c11] at H
                  exact absurd H (by simp)
                · rw [if_neg c11] at H
                  have c11b0 : (a0 == 0) = false := beq_eq_false_iff_ne.mpr c11
                  have c11b1 : (a0 != 0) = true := bne_iff_ne.mpr c11
                  obtain ⟨ji12, hji12⟩ : ∃ j_ : Int, (wrap64 ((wrap64 ((Int.tmod x6_1 a0) * a0)) + (wrap64 (Int.tdiv x6_1 a0)))) = j_ := ⟨_, rfl⟩
                  replace H : (if 0 ≤ (ji12) then (if (ji12) < (x5_1.length : Int) then (pomadelaw04_flipped.l0 k1 a0 a1 (x5_1.set ((ji12) : Int).toNat 111) (wrap64 (x6_1 + 1))) else (none)) else (none)) = some r := by first | (rw [hji12] at H; exact H) | (simp only [hji12] at H ⊢; exact H)
                  have hji12w : (IntKind.i64.wrap ((wrap64 ((Int.tmod x6_1 a0) * a0)) + (wrap64 (Int.tdiv x6_1 a0)))) = ji12 := (i64_w _).trans hji12
                  by_cases c13 : 0 ≤ (ji12)
                  · rw [if_pos c13] at H
                    have c13b0 : decide (0 ≤ (ji12)) = true := decide_eq_true c13
                    clear c13
                    by_cases c14 : (ji12) < (x5_1.length : Int)
                    · rw [if_pos c14] at H
                      have c14b0 : decide ((ji12) < (x5_1.length : Int)) = true := decide_eq_true c14
                      clear c14
                      obtain ⟨y237, hy237⟩ : ∃ y_ : List Int, y_ = (x5_1.set ((ji12) : Int).toNat 111) := ⟨_, rfl⟩
                      replace H : (pomadelaw04_flipped.l0 k1 a0 a1 y237 (wrap64 (x6_1 + 1))) = some r := by first | (rw [hy237]; with_reducible exact H) | (have H2_ := (Option.bind_some _ _).symm.trans H; rw [hy237]; with_reducible exact H2_) | (have H2_ := (Option.bind_some _ _).symm.trans H; with_reducible exact H2_) | with_reducible exact H | (rw [hy237]; exact H) | exact H
                      have Ny237 := Aside0.mk hy237
                      clear hy237
                      have H' := Aside0.mk H
                      clear H
                      have p9 : 0 ≤ (x6_1 : Int) := of_decide_eq_true (by first | (with_reducible assumption) | assumption)
                      have q9 : x6_1 < (a1.size : Int) := of_decide_eq_true (by first | (with_reducible assumption) | assumption)
                      have hx9 := bt_at a1 x6_1
                      replace p9 := eq_true p9
                      replace q9 := eq_true q9
                      try go_wp2
                      have n0_ := Aside0.mk (Kd.R_drew HO_5.out)
                      have n1_ := Aside0.mk (below_drew1 HB.out)
                      clear HO_5
                      clear HB
                      have HO_5 := n0_
                      have HB := n1_
                      clear n0_ n1_
                      have p15 : 0 ≤ ((ji12) : Int) := of_decide_eq_true (by first | (with_reducible assumption) | assumption)
                      have q15 : ((ji12) : Int) < ((x5_1.length : Int) : Int) := of_decide_eq_true (by first | (with_reducible assumption) | assumption)
                      obtain ⟨go15, co15, eo15, gb15, gl15, cl15, HG15⟩ := Kd.R_form HO_5.out (by omega)
                      (first | cases eo15 | (injection eo15 with ea_ en_ ec_; (first | subst ea_ | (injection ea_ with ea_; subst ea_)); subst ec_; clear en_))
                      have GB15 := Aside0.mk gb15
                      have GG15 := Aside0.mk HG15
                      clear gb15 gl15 HG15
                      obtain ⟨hx15_0, hf15_0⟩ := Kd.R_celln 0 HO_5.out ((ji12) : Int) p15 q15
                      replace p15 := eq_true p15
                      replace q15 := eq_true q15
                      have HP17 := Kd.R_putn HO_5.out ((ji12) : Int) 111
                      rw [← Ny237.out] at HP17
                      have HQ17 := Aside0.mk HP17
                      clear HP17
                      refine start_ (n := 13) (S := fun w' => True) (ds := [12]) #[false, false, false, false, false, false, false, false, false, false, false, false, false] (by kernel_rfl) rfl rfl trivial (fun hHeld => ?_); refine with_tabW pomadelaw04_flipped.tab10 pomadelaw04_flipped.bits10 (fun HT_ HW_ => ?_)
                      generalize wr.drew = w16 at HO_5 HB GG15 HQ17 hf15_0 hx15_0 hHeld ⊢
                      refine pure_ (i := 0) (N := some 24) (v := ?_) (a' := ?_) #[true, false, false, false, false, false, false, false, false, false, false, false, false] rfl rfl (any_of HT_.out (by kernel_rfl)) (fun _ _ _ h => h) (Or.inl ⟨by rfl, ?_⟩) ?_ ?_
                      rotate_left
                      · intro w'
                        go_simp
                        with_reducible rfl
                      rotate_left
                      · simp only [Act.put, List.setIfInBounds_toArray, List.set_cons_zero, List.set_cons_succ, i64_w, i32_w]
                        rfl
                      refine pure_ (i := 1) (N := some 25) (v := ?_) (a' := ?_) #[true, true, false, false, false, false, false, false, false, false, false, false, false] rfl rfl (any_of HT_.out (by kernel_rfl)) (fun _ _ _ h => h) (Or.inl ⟨by rfl, ?_⟩) ?_ ?_
                      rotate_left
                      · intro w'
                        go_simp
                        with_reducible rfl
                      rotate_left
                      · simp only [Act.put, List.setIfInBounds_toArray, List.set_cons_zero, List.set_cons_succ, i64_w, i32_w]
                        rfl
                      refine pure_ (i := 2) (N := some 26) (v := ?_) (a' := ?_) #[true, true, true, false, false, false, false, false, false, false, false, false, false] rfl rfl (any_of HT_.out (by kernel_rfl)) (fun _ _ _ h => h) (Or.inl ⟨by rfl, ?_⟩) ?_ ?_
                      rotate_left
                      · intro w'
                        go_simp
                        with_reducible rfl
                      rotate_left
                      · simp only [Act.put, List.setIfInBounds_toArray, List.set_cons_zero, List.set_cons_succ, i64_w, i32_w]
                        rfl
                      refine pure_ (i := 3) (N := some 27) (v := ?_) (a' := ?_) #[true, true, true, true, false, false, false, false, false, false, false, false, false] rfl rfl (any_of HT_.out (by kernel_rfl)) (fun _ _ _ h => h) (Or.inl ⟨by rfl, ?_⟩) ?_ ?_
                      rotate_left
                      · intro w'
                        go_simp
                        with_reducible rfl
                      rotate_left
                      · simp only [Act.put, List.setIfInBounds_toArray, List.set_cons_zero, List.set_cons_succ, i64_w, i32_w]
                        rfl
                      refine pure_ (i := 4) (N := some 28) (v := ?_) (a' := ?_) #[true, true, true, true, true, false, false, false, false, false, false, false, false] rfl rfl (any_of HT_.out (by kernel_rfl)) (fun _ _ _ h => h) (Or.inl ⟨by rfl, ?_⟩) ?_ ?_
                      rotate_left
                      · intro w'
                        go_simp
                        with_reducible rfl
                      rotate_left
                      · simp only [Act.put, List.setIfInBounds_toArray, List.set_cons_zero, List.set_cons_succ, i64_w, i32_w]
                        rfl
                      refine pure_ (i := 5) (N := some 29) (v := ?_) (a' := ?_) #[true, true, true, true, true, true, false, false, false, false, false, false, false] rfl rfl (any_of HT_.out (by kernel_rfl)) (fun _ _ _ h => h) (Or.inl ⟨by rfl, ?_⟩) ?_ ?_
                      rotate_left
                      · intro w'
                        go_simp
                        with_reducible rfl
                      rotate_left
                      · simp only [Act.put, List.setIfInBounds_toArray, List.set_cons_zero, List.set_cons_succ, i64_w, i32_w]
                        rfl
                      refine pure_ (i := 6) (N := some 30) (v := ?_) (a' := ?_) #[true, true, true, true, true, true, true, false, false, false, false, false, false] rfl rfl (any_of HT_.out (by kernel_rfl)) (fun _ _ _ h => h) (Or.inl ⟨by rfl, ?_⟩) ?_ ?_
                      rotate_left
                      · intro w'
                        go_simp
                        with_reducible rfl
                      rotate_left
                      · simp only [Act.put, List.setIfInBounds_toArray, List.set_cons_zero, List.set_cons_succ, i64_w, i32_w]
                        rfl
                      refine pure_ (i := 7) (N := some 31) (v := ?_) (a' := ?_) #[true, true, true, true, true, true, true, true, false, false, false, false, false] rfl rfl (any_of HT_.out (by kernel_rfl)) (fun _ _ _ h => h) (Or.inl ⟨by rfl, ?_⟩) ?_ ?_
                      rotate_left
                      · intro w'
                        go_simp
                        with_reducible rfl
                      rotate_left
                      · simp only [Act.put, List.setIfInBounds_toArray, List.set_cons_zero, List.set_cons_succ, i64_w, i32_w]
                        rfl
                      refine pure_ (i := 8) (N := some 32) (v := ?_) (a' := ?_) #[true, true, true, true, true, true, true, true, true, false, false, false, false] rfl rfl (any_of HT_.out (by kernel_rfl)) (fun _ _ _ h => h) (Or.inl ⟨by rfl, ?_⟩) ?_ ?_
                      rotate_left
                      · intro w'
                        go_simp
                        with_reducible rfl
                      rotate_left
                      · simp only [Act.put, List.setIfInBounds_toArray, List.set_cons_zero, List.set_cons_succ, i64_w, i32_w]
                        rfl
                      refine pure_ (i := 9) (N := some 33) (v := ?_) (a' := ?_) #[true, true, true, true, true, true, true, true, true, true, false, false, false] rfl rfl (any_of HT_.out (by kernel_rfl)) (fun _ _ _ h => h) (Or.inl ⟨by rfl, ?_⟩) ?_ ?_
                      rotate_left
                      · intro w'
                        go_simp
                        with_reducible rfl
                      rotate_left
                      · simp only [Act.put, List.setIfInBounds_toArray, List.set_cons_zero, List.set_cons_succ, i64_w, i32_w]
                        rfl
                      refine pure_ (i := 10) (N := some 34) (v := ?_) (a' := ?_) #[true, true, true, true, true, true, true, true, true, true, true, false, false] rfl rfl (any_of HT_.out (by kernel_rfl)) (fun _ _ _ h => h) (Or.inl ⟨by rfl, ?_⟩) ?_ ?_
                      rotate_left
                      · intro w'
                        go_simp
                        with_reducible rfl
                      rotate_left
                      · simp only [Act.put, List.setIfInBounds_toArray, List.set_cons_zero, List.set_cons_succ, i64_w, i32_w]
                        rfl
                      refine pure_ (i := 11) (N := some 35) (v := ?_) (a' := ?_) #[true, true, true, true, true, true, true, true, true, true, true, true, false] rfl rfl (any_of HT_.out (by kernel_rfl)) (fun _ _ _ h => h) (Or.inl ⟨by rfl, ?_⟩) ?_ ?_
                      rotate_left
                      · intro w'
                        go_simp
                        with_reducible rfl
                      rotate_left
                      · simp only [Act.put, List.setIfInBounds_toArray, List.set_cons_zero, List.set_cons_succ, i64_w, i32_w]
                        rfl
                      refine last_ (i := 12) (N := none) #[true, true, true, true, true, true, true, true, true, true, true, true, true] rfl rfl (one_of HT_.out (by kernel_rfl)) (by decide) (fun K hK => ?_)
                      refine skip_ (w1 := ?_) (by rfl) rfl ?_ ?_
                      rotate_left
                      · go_simp
                        rfl
                      refine hK.out _ _ ?_
                      clear hK K
                      refine done_ (done_of HT_.out (by kernel_rfl)) ?_
                      try go_wp2
                      go_roundg k1
                      case measure => have := HK1.out; omega
                      case rel => exact ⟨(y237), (wrap64 (x6_1 + 1)), (by first | rfl | (simp; done) | (simp [*]; done)), H', ⟨by have := HK1.out; omega⟩, ⟨by (with_reducible repeat (first | apply Kd.R_alloc | apply Kd.R_drewN | apply Kd.R_drew)); exact HQ17.out⟩, ⟨by repeat (first | (with_reducible first | exact HB.out | apply below_alloc | apply pw_below_drewN | apply below_drew1 | refine below_set ?_ GB15.out) | exact HB.out)⟩⟩
                    · rw [if_neg c14] at H
                      exact absurd H (by simp)
                  · rw [if_neg c13] at H
                    exact absurd H (by simp)
              · rw [if_neg c10] at H
                have c10b0 : ((bt a1 x6_1) == 120) = false := beq_eq_false_iff_ne.mpr c10
                have c10b1 : ((bt a1 x6_1) != 120) = true := bne_iff_ne.mpr c10
                by_cases c18 : (bt a1 x6_1) = 111
                · rw [if_pos c18] at H
                  have c18b0 : ((bt a1 x6_1) == 111) = true := beq_iff_eq.mpr c18
                  have c18b1 : ((bt a1 x6_1) != 111) = false := bne_eq_false_iff_eq.mpr c18
                  clear c18
                  by_cases c19 : a0 = 0
                  · rw [if_pos c19] at H
                    exact absurd H (by simp)
                  · rw [if_neg c19] at H
                    have c19b0 : (a0 == 0) = false := beq_eq_false_iff_ne.mpr c19
                    have c19b1 : (a0 != 0) = true := bne_iff_ne.mpr c19
                    obtain ⟨ji20, hji20⟩ : ∃ j_ : Int, (wrap64 ((wrap64 ((Int.tmod x6_1 a0) * a0)) + (wrap64 (Int.tdiv x6_1 a0)))) = j_ := ⟨_, rfl⟩
                    replace H : (if 0 ≤ (ji20) then (if (ji20) < (x5_1.length : Int) then (pomadelaw04_flipped.l0 k1 a0 a1 (x5_1.set ((ji20) : Int).toNat 120) (wrap64 (x6_1 + 1))) else (none)) else (none)) = some r := by first | (rw [hji20] at H; exact H) | (simp only [hji20] at H ⊢; exact H)
                    have hji20w : (IntKind.i64.wrap ((wrap64 ((Int.tmod x6_1 a0) * a0)) + (wrap64 (Int.tdiv x6_1 a0)))) = ji20 := (i64_w _).trans hji20
                    by_cases c21 : 0 ≤ (ji20)
                    · rw [if_pos c21] at H
                      have c21b0 : decide (0 ≤ (ji20)) = true := decide_eq_true c21
                      clear c21
                      by_cases c22 : (ji20) < (x5_1.length : Int)
                      · rw [if_pos c22] at H
                        have c22b0 : decide ((ji20) < (x5_1.length : Int)) = true := decide_eq_true c22
                        clear c22
                        obtain ⟨y238, hy238⟩ : ∃ y_ : List Int, y_ = (x5_1.set ((ji20) : Int).toNat 120) := ⟨_, rfl⟩
                        replace H : (pomadelaw04_flipped.l0 k1 a0 a1 y238 (wrap64 (x6_1 + 1))) = some r := by first | (rw [hy238]; with_reducible exact H) | (have H2_ := (Option.bind_some _ _).symm.trans H; rw [hy238]; with_reducible exact H2_) | (have H2_ := (Option.bind_some _ _).symm.trans H; with_reducible exact H2_) | with_reducible exact H | (rw [hy238]; exact H) | exact H
                        have Ny238 := Aside0.mk hy238
                        clear hy238
                        have H' := Aside0.mk H
                        clear H
                        have p9 : 0 ≤ (x6_1 : Int) := of_decide_eq_true (by first | (with_reducible assumption) | assumption)
                        have q9 : x6_1 < (a1.size : Int) := of_decide_eq_true (by first | (with_reducible assumption) | assumption)
                        have hx9 := bt_at a1 x6_1
                        replace p9 := eq_true p9
                        replace q9 := eq_true q9
                        try go_wp2
                        have n0_ := Aside0.mk (Kd.R_drew HO_5.out)
                        have n1_ := Aside0.mk (below_drew1 HB.out)
                        clear HO_5
                        clear HB
                        have HO_5 := n0_
                        have HB := n1_
                        clear n0_ n1_
                        have p23 : 0 ≤ ((ji20) : Int) := of_decide_eq_true (by first | (with_reducible assumption) | assumption)
                        have q23 : ((ji20) : Int) < ((x5_1.length : Int) : Int) := of_decide_eq_true (by first | (with_reducible assumption) | assumption)
                        obtain ⟨go23, co23, eo23, gb23, gl23, cl23, HG23⟩ := Kd.R_form HO_5.out (by omega)
                        (first | cases eo23 | (injection eo23 with ea_ en_ ec_; (first | subst ea_ | (injection ea_ with ea_; subst ea_)); subst ec_; clear en_))
                        have GB23 := Aside0.mk gb23
                        have GG23 := Aside0.mk HG23
                        clear gb23 gl23 HG23
                        obtain ⟨hx23_0, hf23_0⟩ := Kd.R_celln 0 HO_5.out ((ji20) : Int) p23 q23
                        replace p23 := eq_true p23
                        replace q23 := eq_true q23
                        have HP25 := Kd.R_putn HO_5.out ((ji20) : Int) 120
                        rw [← Ny238.out] at HP25
                        have HQ25 := Aside0.mk HP25
                        clear HP25
                        refine start_ (n := 13) (S := fun w' => True) (ds := [12]) #[false, false, false, false, false, false, false, false, false, false, false, false, false] (by kernel_rfl) rfl rfl trivial (fun hHeld => ?_); refine with_tabW pomadelaw04_flipped.tab10 pomadelaw04_flipped.bits10 (fun HT_ HW_ => ?_)
                        generalize wr.drew = w24 at HO_5 HB GG23 HQ25 hf23_0 hx23_0 hHeld ⊢
                        refine pure_ (i := 0) (N := some 24) (v := ?_) (a' := ?_) #[true, false, false, false, false, false, false, false, false, false, false, false, false] rfl rfl (any_of HT_.out (by kernel_rfl)) (fun _ _ _ h => h) (Or.inl ⟨by rfl, ?_⟩) ?_ ?_
                        rotate_left
                        · intro w'
                          go_simp
                          with_reducible rfl
                        rotate_left
                        · simp only [Act.put, List.setIfInBounds_toArray, List.set_cons_zero, List.set_cons_succ, i64_w, i32_w]
                          rfl
                        refine pure_ (i := 1) (N := some 25) (v := ?_) (a' := ?_) #[true, true, false, false, false, false, false, false, false, false, false, false, false] rfl rfl (any_of HT_.out (by kernel_rfl)) (fun _ _ _ h => h) (Or.inl ⟨by rfl, ?_⟩) ?_ ?_
                        rotate_left
                        · intro w'
                          go_simp
                          with_reducible rfl
                        rotate_left
                        · simp only [Act.put, List.setIfInBounds_toArray, List.set_cons_zero, List.set_cons_succ, i64_w, i32_w]
                          rfl
                        refine pure_ (i := 2) (N := some 26) (v := ?_) (a' := ?_) #[true, true, true, false, false, false, false, false, false, false, false, false, false] rfl rfl (any_of HT_.out (by kernel_rfl)) (fun _ _ _ h => h) (Or.inl ⟨by rfl, ?_⟩) ?_ ?_
                        rotate_left
                        · intro w'
                          go_simp
                          with_reducible rfl
                        rotate_left
                        · simp only [Act.put, List.setIfInBounds_toArray, List.set_cons_zero, List.set_cons_succ, i64_w, i32_w]
                          rfl
                        refine pure_ (i := 3) (N := some 27) (v := ?_) (a' := ?_) #[true, true, true, true, false, false, false, false, false, false, false, false, false] rfl rfl (any_of HT_.out (by kernel_rfl)) (fun _ _ _ h => h) (Or.inl ⟨by rfl, ?_⟩) ?_ ?_
                        rotate_left
                        · intro w'
                          go_simp
                          with_reducible rfl
                        rotate_left
                        · simp only [Act.put, List.setIfInBounds_toArray, List.set_cons_zero, List.set_cons_succ, i64_w, i32_w]
                          rfl
                        refine pure_ (i := 4) (N := some 28) (v := ?_) (a' := ?_) #[true, true, true, true, true, false, false, false, false, false, false, false, false] rfl rfl (any_of HT_.out (by kernel_rfl)) (fun _ _ _ h => h) (Or.inl ⟨by rfl, ?_⟩) ?_ ?_
                        rotate_left
                        · intro w'
                          go_simp
                          with_reducible rfl
                        rotate_left
                        · simp only [Act.put, List.setIfInBounds_toArray, List.set_cons_zero, List.set_cons_succ, i64_w, i32_w]
                          rfl
                        refine pure_ (i := 5) (N := some 29) (v := ?_) (a' := ?_) #[true, true, true, true, true, true, false, false, false, false, false, false, false] rfl rfl (any_of HT_.out (by kernel_rfl)) (fun _ _ _ h => h) (Or.inl ⟨by rfl, ?_⟩) ?_ ?_
                        rotate_left
                        · intro w'
                          go_simp
                          with_reducible rfl
                        rotate_left
                        · simp only [Act.put, List.setIfInBounds_toArray, List.set_cons_zero, List.set_cons_succ, i64_w, i32_w]
                          rfl
                        refine pure_ (i := 6) (N := some 30) (v := ?_) (a' := ?_) #[true, true, true, true, true, true, true, false, false, false, false, false, false] rfl rfl (any_of HT_.out (by kernel_rfl)) (fun _ _ _ h => h) (Or.inl ⟨by rfl, ?_⟩) ?_ ?_
                        rotate_left
                        · intro w'
                          go_simp
                          with_reducible rfl
                        rotate_left
                        · simp only [Act.put, List.setIfInBounds_toArray, List.set_cons_zero, List.set_cons_succ, i64_w, i32_w]
                          rfl
                        refine pure_ (i := 7) (N := some 31) (v := ?_) (a' := ?_) #[true, true, true, true, true, true, true, true, false, false, false, false, false] rfl rfl (any_of HT_.out (by kernel_rfl)) (fun _ _ _ h => h) (Or.inl ⟨by rfl, ?_⟩) ?_ ?_
                        rotate_left
                        · intro w'
                          go_simp
                          with_reducible rfl
                        rotate_left
                        · simp only [Act.put, List.setIfInBounds_toArray, List.set_cons_zero, List.set_cons_succ, i64_w, i32_w]
                          rfl
                        refine pure_ (i := 8) (N := some 32) (v := ?_) (a' := ?_) #[true, true, true, true, true, true, true, true, true, false, false, false, false] rfl rfl (any_of HT_.out (by kernel_rfl)) (fun _ _ _ h => h) (Or.inl ⟨by rfl, ?_⟩) ?_ ?_
                        rotate_left
                        · intro w'
                          go_simp
                          with_reducible rfl
                        rotate_left
                        · simp only [Act.put, List.setIfInBounds_toArray, List.set_cons_zero, List.set_cons_succ, i64_w, i32_w]
                          rfl
                        refine pure_ (i := 9) (N := some 33) (v := ?_) (a' := ?_) #[true, true, true, true, true, true, true, true, true, true, false, false, false] rfl rfl (any_of HT_.out (by kernel_rfl)) (fun _ _ _ h => h) (Or.inl ⟨by rfl, ?_⟩) ?_ ?_
                        rotate_left
                        · intro w'
                          go_simp
                          with_reducible rfl
                        rotate_left
                        · simp only [Act.put, List.setIfInBounds_toArray, List.set_cons_zero, List.set_cons_succ, i64_w, i32_w]
                          rfl
                        refine pure_ (i := 10) (N := some 34) (v := ?_) (a' := ?_) #[true, true, true, true, true, true, true, true, true, true, true, false, false] rfl rfl (any_of HT_.out (by kernel_rfl)) (fun _ _ _ h => h) (Or.inl ⟨by rfl, ?_⟩) ?_ ?_
                        rotate_left
                        · intro w'
                          go_simp
                          with_reducible rfl
                        rotate_left
                        · simp only [Act.put, List.setIfInBounds_toArray, List.set_cons_zero, List.set_cons_succ, i64_w, i32_w]
                          rfl
                        refine pure_ (i := 11) (N := some 35) (v := ?_) (a' := ?_) #[true, true, true, true, true, true, true, true, true, true, true, true, false] rfl rfl (any_of HT_.out (by kernel_rfl)) (fun _ _ _ h => h) (Or.inl ⟨by rfl, ?_⟩) ?_ ?_
                        rotate_left
                        · intro w'
                          go_simp
                          with_reducible rfl
                        rotate_left
                        · simp only [Act.put, List.setIfInBounds_toArray, List.set_cons_zero, List.set_cons_succ, i64_w, i32_w]
                          rfl
                        refine last_ (i := 12) (N := none) #[true, true, true, true, true, true, true, true, true, true, true, true, true] rfl rfl (one_of HT_.out (by kernel_rfl)) (by decide) (fun K hK => ?_)
                        refine skip_ (w1 := ?_) (by rfl) rfl ?_ ?_
                        rotate_left
                        · go_simp
                          rfl
                        refine hK.out _ _ ?_
                        clear hK K
                        refine done_ (done_of HT_.out (by kernel_rfl)) ?_
                        try go_wp2
                        go_roundg k1
                        case measure => have := HK1.out; omega
                        case rel => exact ⟨(y238), (wrap64 (x6_1 + 1)), (by first | rfl | (simp; done) | (simp [*]; done)), H', ⟨by have := HK1.out; omega⟩, ⟨by (with_reducible repeat (first | apply Kd.R_alloc | apply Kd.R_drewN | apply Kd.R_drew)); exact HQ25.out⟩, ⟨by repeat (first | (with_reducible first | exact HB.out | apply below_alloc | apply pw_below_drewN | apply below_drew1 | refine below_set ?_ GB23.out) | exact HB.out)⟩⟩
                      · rw [if_neg c22] at H
                        exact absurd H (by simp)
                    · rw [if_neg c21] at H
                      exact absurd H (by simp)
                · rw [if_neg c18] at H
                  have c18b0 : ((bt a1 x6_1) == 111) = false := beq_eq_false_iff_ne.mpr c18
                  have c18b1 : ((bt a1 x6_1) != 111) = true := bne_iff_ne.mpr c18
                  by_cases c26 : a0 = 0
                  · rw [if_pos c26] at H
                    exact absurd H (by simp)
                  · rw [if_neg c26] at H
                    have c26b0 : (a0 == 0) = false := beq_eq_false_iff_ne.mpr c26
                    have c26b1 : (a0 != 0) = true := bne_iff_ne.mpr c26
                    obtain ⟨ji27, hji27⟩ : ∃ j_ : Int, (wrap64 ((wrap64 ((Int.tmod x6_1 a0) * a0)) + (wrap64 (Int.tdiv x6_1 a0)))) = j_ := ⟨_, rfl⟩
                    replace H : (if 0 ≤ (ji27) then (if (ji27) < (x5_1.length : Int) then (pomadelaw04_flipped.l0 k1 a0 a1 (x5_1.set ((ji27) : Int).toNat (bt a1 x6_1)) (wrap64 (x6_1 + 1))) else (none)) else (none)) = some r := by first | (rw [hji27] at H; exact H) | (simp only [hji27] at H ⊢; exact H)
                    have hji27w : (IntKind.i64.wrap ((wrap64 ((Int.tmod x6_1 a0) * a0)) + (wrap64 (Int.tdiv x6_1 a0)))) = ji27 := (i64_w _).trans hji27
                    by_cases c28 : 0 ≤ (ji27)
                    · rw [if_pos c28] at H
                      have c28b0 : decide (0 ≤ (ji27)) = true := decide_eq_true c28
                      clear c28
                      by_cases c29 : (ji27) < (x5_1.length : Int)
                      · rw [if_pos c29] at H
                        have c29b0 : decide ((ji27) < (x5_1.length : Int)) = true := decide_eq_true c29
                        clear c29
                        obtain ⟨y239, hy239⟩ : ∃ y_ : List Int, y_ = (x5_1.set ((ji27) : Int).toNat (bt a1 x6_1)) := ⟨_, rfl⟩
                        replace H : (pomadelaw04_flipped.l0 k1 a0 a1 y239 (wrap64 (x6_1 + 1))) = some r := by first | (rw [hy239]; with_reducible exact H) | (have H2_ := (Option.bind_some _ _).symm.trans H; rw [hy239]; with_reducible exact H2_) | (have H2_ := (Option.bind_some _ _).symm.trans H; with_reducible exact H2_) | with_reducible exact H | (rw [hy239]; exact H) | exact H
                        have Ny239 := Aside0.mk hy239
                        clear hy239
                        have H' := Aside0.mk H
                        clear H
                        have p9 : 0 ≤ (x6_1 : Int) := of_decide_eq_true (by first | (with_reducible assumption) | assumption)
                        have q9 : x6_1 < (a1.size : Int) := of_decide_eq_true (by first | (with_reducible assumption) | assumption)
                        have hx9 := bt_at a1 x6_1
                        replace p9 := eq_true p9
                        replace q9 := eq_true q9
                        try go_wp2
                        have n0_ := Aside0.mk (Kd.R_drew HO_5.out)
                        have n1_ := Aside0.mk (below_drew1 HB.out)
                        clear HO_5
                        clear HB
                        have HO_5 := n0_
                        have HB := n1_
                        clear n0_ n1_
                        have p30 : 0 ≤ ((ji27) : Int) := of_decide_eq_true (by first | (with_reducible assumption) | assumption)
                        have q30 : ((ji27) : Int) < ((x5_1.length : Int) : Int) := of_decide_eq_true (by first | (with_reducible assumption) | assumption)
                        obtain ⟨go30, co30, eo30, gb30, gl30, cl30, HG30⟩ := Kd.R_form HO_5.out (by omega)
                        (first | cases eo30 | (injection eo30 with ea_ en_ ec_; (first | subst ea_ | (injection ea_ with ea_; subst ea_)); subst ec_; clear en_))
                        have GB30 := Aside0.mk gb30
                        have GG30 := Aside0.mk HG30
                        clear gb30 gl30 HG30
                        obtain ⟨hx30_0, hf30_0⟩ := Kd.R_celln 0 HO_5.out ((ji27) : Int) p30 q30
                        replace p30 := eq_true p30
                        replace q30 := eq_true q30
                        have HP32 := Kd.R_putn HO_5.out ((ji27) : Int) (bt a1 x6_1)
                        rw [← Ny239.out] at HP32
                        have HQ32 := Aside0.mk HP32
                        clear HP32
                        refine start_ (n := 13) (S := fun w' => True) (ds := [12]) #[false, false, false, false, false, false, false, false, false, false, false, false, false] (by kernel_rfl) rfl rfl trivial (fun hHeld => ?_); refine with_tabW pomadelaw04_flipped.tab10 pomadelaw04_flipped.bits10 (fun HT_ HW_ => ?_)
                        generalize wr.drew = w31 at HO_5 HB GG30 HQ32 hf30_0 hx30_0 hHeld ⊢
                        refine pure_ (i := 0) (N := some 24) (v := ?_) (a' := ?_) #[true, false, false, false, false, false, false, false, false, false, false, false, false] rfl rfl (any_of HT_.out (by kernel_rfl)) (fun _ _ _ h => h) (Or.inl ⟨by rfl, ?_⟩) ?_ ?_
                        rotate_left
                        · intro w'
                          go_simp
                          with_reducible rfl
                        rotate_left
                        · simp only [Act.put, List.setIfInBounds_toArray, List.set_cons_zero, List.set_cons_succ, i64_w, i32_w]
                          rfl
                        refine pure_ (i := 1) (N := some 25) (v := ?_) (a' := ?_) #[true, true, false, false, false, false, false, false, false, false, false, false, false] rfl rfl (any_of HT_.out (by kernel_rfl)) (fun _ _ _ h => h) (Or.inl ⟨by rfl, ?_⟩) ?_ ?_
                        rotate_left
                        · intro w'
                          go_simp
                          with_reducible rfl
                        rotate_left
                        · simp only [Act.put, List.setIfInBounds_toArray, List.set_cons_zero, List.set_cons_succ, i64_w, i32_w]
                          rfl
                        refine pure_ (i := 2) (N := some 26) (v := ?_) (a' := ?_) #[true, true, true, false, false, false, false, false, false, false, false, false, false] rfl rfl (any_of HT_.out (by kernel_rfl)) (fun _ _ _ h => h) (Or.inl ⟨by rfl, ?_⟩) ?_ ?_
                        rotate_left
                        · intro w'
                          go_simp
                          with_reducible rfl
                        rotate_left
                        · simp only [Act.put, List.setIfInBounds_toArray, List.set_cons_zero, List.set_cons_succ, i64_w, i32_w]
                          rfl
                        refine pure_ (i := 3) (N := some 27) (v := ?_) (a' := ?_) #[true, true, true, true, false, false, false, false, false, false, false, false, false] rfl rfl (any_of HT_.out (by kernel_rfl)) (fun _ _ _ h => h) (Or.inl ⟨by rfl, ?_⟩) ?_ ?_
                        rotate_left
                        · intro w'
                          go_simp
                          with_reducible rfl
                        rotate_left
                        · simp only [Act.put, List.setIfInBounds_toArray, List.set_cons_zero, List.set_cons_succ, i64_w, i32_w]
                          rfl
                        refine pure_ (i := 4) (N := some 28) (v := ?_) (a' := ?_) #[true, true, true, true, true, false, false, false, false, false, false, false, false] rfl rfl (any_of HT_.out (by kernel_rfl)) (fun _ _ _ h => h) (Or.inl ⟨by rfl, ?_⟩) ?_ ?_
                        rotate_left
                        · intro w'
                          go_simp
                          with_reducible rfl
                        rotate_left
                        · simp only [Act.put, List.setIfInBounds_toArray, List.set_cons_zero, List.set_cons_succ, i64_w, i32_w]
                          rfl
                        refine pure_ (i := 5) (N := some 29) (v := ?_) (a' := ?_) #[true, true, true, true, true, true, false, false, false, false, false, false, false] rfl rfl (any_of HT_.out (by kernel_rfl)) (fun _ _ _ h => h) (Or.inl ⟨by rfl, ?_⟩) ?_ ?_
                        rotate_left
                        · intro w'
                          go_simp
                          with_reducible rfl
                        rotate_left
                        · simp only [Act.put, List.setIfInBounds_toArray, List.set_cons_zero, List.set_cons_succ, i64_w, i32_w]
                          rfl
                        refine pure_ (i := 6) (N := some 30) (v := ?_) (a' := ?_) #[true, true, true, true, true, true, true, false, false, false, false, false, false] rfl rfl (any_of HT_.out (by kernel_rfl)) (fun _ _ _ h => h) (Or.inl ⟨by rfl, ?_⟩) ?_ ?_
                        rotate_left
                        · intro w'
                          go_simp
                          with_reducible rfl
                        rotate_left
                        · simp only [Act.put, List.setIfInBounds_toArray, List.set_cons_zero, List.set_cons_succ, i64_w, i32_w]
                          rfl
                        refine pure_ (i := 7) (N := some 31) (v := ?_) (a' := ?_) #[true, true, true, true, true, true, true, true, false, false, false, false, false] rfl rfl (any_of HT_.out (by kernel_rfl)) (fun _ _ _ h => h) (Or.inl ⟨by rfl, ?_⟩) ?_ ?_
                        rotate_left
                        · intro w'
                          go_simp
                          with_reducible rfl
                        rotate_left
                        · simp only [Act.put, List.setIfInBounds_toArray, List.set_cons_zero, List.set_cons_succ, i64_w, i32_w]
                          rfl
                        refine pure_ (i := 8) (N := some 32) (v := ?_) (a' := ?_) #[true, true, true, true, true, true, true, true, true, false, false, false, false] rfl rfl (any_of HT_.out (by kernel_rfl)) (fun _ _ _ h => h) (Or.inl ⟨by rfl, ?_⟩) ?_ ?_
                        rotate_left
                        · intro w'
                          go_simp
                          with_reducible rfl
                        rotate_left
                        · simp only [Act.put, List.setIfInBounds_toArray, List.set_cons_zero, List.set_cons_succ, i64_w, i32_w]
                          rfl
                        refine pure_ (i := 9) (N := some 33) (v := ?_) (a' := ?_) #[true, true, true, true, true, true, true, true, true, true, false, false, false] rfl rfl (any_of HT_.out (by kernel_rfl)) (fun _ _ _ h => h) (Or.inl ⟨by rfl, ?_⟩) ?_ ?_
                        rotate_left
                        · intro w'
                          go_simp
                          with_reducible rfl
                        rotate_left
                        · simp only [Act.put, List.setIfInBounds_toArray, List.set_cons_zero, List.set_cons_succ, i64_w, i32_w]
                          rfl
                        refine pure_ (i := 10) (N := some 34) (v := ?_) (a' := ?_) #[true, true, true, true, true, true, true, true, true, true, true, false, false] rfl rfl (any_of HT_.out (by kernel_rfl)) (fun _ _ _ h => h) (Or.inl ⟨by rfl, ?_⟩) ?_ ?_
                        rotate_left
                        · intro w'
                          go_simp
                          with_reducible rfl
                        rotate_left
                        · simp only [Act.put, List.setIfInBounds_toArray, List.set_cons_zero, List.set_cons_succ, i64_w, i32_w]
                          rfl
                        refine pure_ (i := 11) (N := some 35) (v := ?_) (a' := ?_) #[true, true, true, true, true, true, true, true, true, true, true, true, false] rfl rfl (any_of HT_.out (by kernel_rfl)) (fun _ _ _ h => h) (Or.inl ⟨by rfl, ?_⟩) ?_ ?_
                        rotate_left
                        · intro w'
                          go_simp
                          with_reducible rfl
                        rotate_left
                        · simp only [Act.put, List.setIfInBounds_toArray, List.set_cons_zero, List.set_cons_succ, i64_w, i32_w]
                          rfl
                        refine last_ (i := 12) (N := none) #[true, true, true, true, true, true, true, true, true, true, true, true, true] rfl rfl (one_of HT_.out (by kernel_rfl)) (by decide) (fun K hK => ?_)
                        refine skip_ (w1 := ?_) (by rfl) rfl ?_ ?_
                        rotate_left
                        · go_simp
                          rfl
                        refine hK.out _ _ ?_
                        clear hK K
                        refine done_ (done_of HT_.out (by kernel_rfl)) ?_
                        try go_wp2
                        go_roundg k1
                        case measure => have := HK1.out; omega
                        case rel => exact ⟨(y239), (wrap64 (x6_1 + 1)), (by first | rfl | (simp; done) | (simp [*]; done)), H', ⟨by have := HK1.out; omega⟩, ⟨by (with_reducible repeat (first | apply Kd.R_alloc | apply Kd.R_drewN | apply Kd.R_drew)); exact HQ32.out⟩, ⟨by repeat (first | (with_reducible first | exact HB.out | apply below_alloc | apply pw_below_drewN | apply below_drew1 | refine below_set ?_ GB30.out) | exact HB.out)⟩⟩
                      · rw [if_neg c29] at H
                        exact absurd H (by simp)
                    · rw [if_neg c28] at H
                      exact absurd H (by simp)
            · rw [if_neg c8] at H
              exact absurd H (by simp)
          · rw [if_neg c7] at H
            have c7b0 : decide (x6_1 < (a1.size : Int)) = false := decide_eq_false c7
            clear c7
            obtain rfl := Option.some.inj H
            have hcv33 := own_string (P := Tryd.prog) Tryd.underlying60 Tryd.underlying5 Tryd.underlying9 (Kd.own_of_R HO_5.out)
            go_wp2
            go_ret
            exact ⟨by first | rfl | (simp [errW_none, errW_some] <;> rfl) | (simp [*, errW_none, errW_some] <;> rfl), by repeat (first | (with_reducible first | exact HB.out | apply below_alloc | apply pw_below_drewN | apply below_drew1) | exact HB.out)⟩
    · rw [if_neg c4] at H
      exact absurd H (by simp)
  · rw [if_neg c3] at H
    exact absurd H (by simp)
end Go.Proofs.YtlmgkmmdaecpdaaDoor.Im

namespace Go.Proofs.YtlmgkmmdaecpdaaDoor.Im
open Go.RowKit Go.Proofs.YtlmgkmmdaecpdaaDoorW.PrintWords Go.Proofs.YtlmgkmmdaecpdaaDoorW.PrintLast Go.Proofs.YtlmgkmmdaecpdaaDoorW.PrintMore Go.Proofs.YtlmgkmmdaecpdaaDoor.Mi
set_option linter.unusedVariables false
structure Env (w : World) (mL : Int) : Prop where
  st : Steps w
  mx : w.cell? ⟨1, 0, none⟩ = some (.int .i64 mL)
theorem Env.later {w w' : World} {mL : Int} (h : Env w mL) {B : Nat} (hb : Below B w w') (hB : B = w.heap.size) : Env w' mL := by
  subst hB
  exact ⟨h.st.later hb, (hb.cell (World.block_lt_of_cell? w _ h.mx)).trans h.mx⟩
theorem alive_env {w : World} {mL : Int} (h : Env w mL) : Calls Tryd.prog 17 #[] w fun e w' => e = .returned (.bool true) ∧ Below w.heap.size w w' := alive_any w h.st mL h.mx
end Go.Proofs.YtlmgkmmdaecpdaaDoor.Im

namespace Go.Proofs.YtlmgkmmdaecpdaaDoor.Im
open Go.RowKit Go.Proofs.YtlmgkmmdaecpdaaDoorW.PrintWords Go.Proofs.YtlmgkmmdaecpdaaDoorW.PrintLast Go.Proofs.YtlmgkmmdaecpdaaDoorW.PrintMore Go.Proofs.YtlmgkmmdaecpdaaDoor.Mi
set_option linter.unusedVariables false
set_option linter.unusedSimpArgs false
theorem min2_a (k k' : IntKind) (x y : Int) (h : x ≤ y) : Builtin.min2 (.int k x) (.int k' y) = pure (.int k x) := by
  rw [min2_int, if_neg (by omega)]
theorem min2_b (k k' : IntKind) (x y : Int) (h : y < x) : Builtin.min2 (.int k x) (.int k' y) = pure (.int k y) := by
  rw [min2_int, if_pos h]
def bL (n : Nat) (p : Int) (xs : List Int) : Nat → Int
  | 0 => 1000
  | i + 1 => if beP n p i then (if rd xs (i : Int) < bL n p xs i then rd xs (i : Int) else bL n p xs i) else bL n p xs i
theorem bL_le {n : Nat} {p : Int} {xs : List Int} : ∀ {m : Nat}, (∀ a, a < m → beP n p a → bL n p xs m ≤ rd xs (a : Int)) ∧ (bL n p xs m = 1000 ∨ ∃ a, a < m ∧ beP n p a ∧ rd xs (a : Int) = bL n p xs m) ∧ bL n p xs m ≤ 1000
  | 0 => ⟨fun a h => absurd h (by omega), .inl rfl, Int.le_refl _⟩
  | m + 1 => by
    obtain ⟨h1, h2, h3⟩ := bL_le (n := n) (p := p) (xs := xs) (m := m)
    have e : bL n p xs (m + 1) = if beP n p m then (if rd xs (m : Int) < bL n p xs m then rd xs (m : Int) else bL n p xs m) else bL n p xs m := rfl
    by_cases hb : beP n p m
    · rw [if_pos hb] at e
      by_cases hl : rd xs (m : Int) < bL n p xs m
      · rw [if_pos hl] at e
        rw [e]
        refine ⟨fun a ha hba => ?_, .inr ⟨m, by omega, hb, rfl⟩, by omega⟩
        rcases Nat.lt_or_ge a m with k | k
        · have := h1 a k hba
          omega
        · obtain rfl : a = m := by omega
          exact Int.le_refl _
      · rw [if_neg hl] at e
        rw [e]
        refine ⟨fun a ha hba => ?_, ?_, h3⟩
        · rcases Nat.lt_or_ge a m with k | k
          · exact h1 a k hba
          · obtain rfl : a = m := by omega
            omega
        · rcases h2 with h2 | ⟨a, k1, k2, k3⟩
          · exact .inl h2
          · exact .inr ⟨a, by omega, k2, k3⟩
    · rw [if_neg hb] at e
      rw [e]
      refine ⟨fun a ha hba => ?_, ?_, h3⟩
      · rcases Nat.lt_or_ge a m with k | k
        · exact h1 a k hba
        · obtain rfl : a = m := by omega
          exact absurd hba hb
      · rcases h2 with h2 | ⟨a, k1, k2, k3⟩
        · exact .inl h2
        · exact .inr ⟨a, by omega, k2, k3⟩
attribute [local go_sem] min2_a min2_b min_two
end Go.Proofs.YtlmgkmmdaecpdaaDoor.Im

namespace Go.Proofs.YtlmgkmmdaecpdaaDoor.Im
open Go.RowKit Go.Proofs.YtlmgkmmdaecpdaaDoorW.PrintWords Go.Proofs.YtlmgkmmdaecpdaaDoorW.PrintLast Go.Proofs.YtlmgkmmdaecpdaaDoorW.PrintMore Go.Proofs.YtlmgkmmdaecpdaaDoor.Mi
set_option linter.unusedVariables false
def wO (n : Nat) (xs : List Int) (a : Nat) : Option Nat := if a < n * n ∧ rd xs (a : Int) < 1000 then some (rd xs (a : Int)).toNat else none
theorem wO_dis {n : Nat} {p : Int} {bs xs : List Int} (h : Ways n p bs (cost1 p) xs) : DisOf n bs p (wO n xs) := dis_of fun a => by
  unfold wO
  refine ⟨fun d hd => ?_, fun hd P hP hh => ?_⟩
  · split at hd
    · rename_i hc
      rw [← Option.some.inj hd]
      exact h.some_ a hc.1 hc.2
    · cases hd
  · have hm := (hP.mem _ (headN_mem hP.ne)).1
    rw [hh] at hm
    split at hd
    · cases hd
    · rename_i hc
      have := h.low a hm
      exact h.none_ a hm (by by_cases k : rd xs (a : Int) < 1000; exact absurd ⟨hm, k⟩ hc; omega) P hP hh
theorem wO_some {n : Nat} {p : Int} {bs xs : List Int} (h : Ways n p bs (cost1 p) xs) {a d : Nat} (ha : a < n * n) (hd : d < 1000) : wO n xs a = some d ↔ rd xs (a : Int) = (d : Int) := by
  have := h.low a ha
  unfold wO
  constructor
  · intro e
    split at e
    · have := Option.some.inj e
      omega
    · cases e
  · intro e
    rw [if_pos ⟨ha, by omega⟩]
    exact congrArg some (by omega)
theorem short_none {n : Nat} {p : Int} {bs xs : List Int} (h : Ways n p bs (cost1 p) xs) (hg : 1000 ≤ bL n p xs (n * n)) : brO n bs p = none := by
  obtain ⟨h1, h2, h3⟩ := bL_le (n := n) (p := p) (xs := xs) (m := n * n)
  refine brO_none fun P hP hb => ?_
  have hm := (hP.mem _ (headN_mem hP.ne)).1
  have h4 := h1 _ hm hb
  have h5 := h.low _ hm
  have hD := (wO_dis h (headN P)).2
  refine hD ?_ P hP rfl
  unfold wO
  rw [if_neg (by omega)]
theorem short_begin {n : Nat} {p : Int} {bs xs : List Int} (h : Ways n p bs (cost1 p) xs) (hg : bL n p xs (n * n) < 1000) : 1 ≤ bL n p xs (n * n) ∧ (∃ a, a < n * n ∧ beP n p a ∧ rd xs (a : Int) = bL n p xs (n * n)) ∧ (∀ a, beP n p a → ∀ e, wO n xs a = some e → (bL n p xs (n * n)).toNat ≤ e) := by
  obtain ⟨h1, h2, h3⟩ := bL_le (n := n) (p := p) (xs := xs) (m := n * n)
  rcases h2 with h2 | ⟨a, k1, k2, k3⟩
  · omega
  · have hw : wO n xs a = some (rd xs (a : Int)).toNat := by unfold wO; rw [if_pos ⟨k1, by omega⟩]
    have hl := h.low a k1
    have hd := ((wO_dis h).low hw).2.2
    refine ⟨by omega, ⟨a, k1, k2, k3⟩, fun c hc e he => ?_⟩
    have hcm := ((wO_dis h).low he).1
    have := h1 c hcm hc
    have he2 : e < 1000 := by
      unfold wO at he
      split at he
      · have := Option.some.inj he
        omega
      · cases he
    have := (wO_some h hcm he2).1 he
    omega
def ShS (n : Nat) (p : Int) (bs xs : List Int) (d0 : Nat) (G : List Nat) (r : Nat) : Prop :=
  (G = [] ∧ r = d0 + 1) ∨ ∃ a0 a, FolI n bs p (wO n xs) a0 d0 G a r ∧ G ≠ [] ∧ lastN G = a ∧ 1 ≤ r ∧ beP n p a0 ∧ wO n xs a0 = some d0 ∧ ∀ x, beP n p x → wO n xs x = some d0 → a0 ≤ x
def fitP (n : Nat) (p : Int) (xs : List Int) (G : List Nat) (r a : Nat) : Prop := rd xs (a : Int) = ((r - 1 : Nat) : Int) ∧ (if G = [] then beP n p a else NearN n (lastN G) a)
theorem ShS.len {n : Nat} {p : Int} {bs xs : List Int} {d0 : Nat} {G : List Nat} {r : Nat} (h : ShS n p bs xs d0 G r) : G.length + r = d0 + 1 := by
  rcases h with ⟨h1, h2⟩ | ⟨a0, a, h1, _⟩
  · rw [h1, h2]; simp
  · exact h1.len
theorem lastN_snoc : ∀ (G : List Nat) (j : Nat), lastN (G ++ [j]) = j
  | [], j => rfl
  | [a], j => rfl
  | a :: b :: t, j => lastN_snoc (b :: t) j
theorem ShS.step {n : Nat} {p : Int} {bs xs : List Int} {d0 : Nat} {G : List Nat} {r a : Nat} (hw : Ways n p bs (cost1 p) xs) (hd : d0 < 1000) (h : ShS n p bs xs d0 G r) (hr : 1 < r) (ha : a < n * n) (hf : fitP n p xs G r a) (hn : ∀ x, x < a → ¬ fitP n p xs G r x) : ShS n p bs xs d0 (G ++ [a]) (r - 1) := by
  unfold fitP at hf hn
  rcases h with ⟨rfl, rfl⟩ | ⟨a0, b, h1, h2, h3, h4, h5, h6, h7⟩
  · rw [if_pos rfl] at hf
    have e : wO n xs a = some d0 := (wO_some hw ha hd).2 hf.1
    refine .inr ⟨a, a, FolI.start e, by simp, rfl, by omega, hf.2, e, fun x hx hxe => ?_⟩
    rcases Nat.lt_or_ge x a with k | k
    · refine absurd ?_ (hn x k)
      rw [if_pos rfl]
      exact ⟨(wO_some hw (by omega) hd).1 hxe, hx⟩
    · exact k
  · rw [if_neg h2, h3] at hf
    have hl := h1.len
    obtain ⟨s, rfl⟩ : ∃ s, r = s + 2 := ⟨r - 2, by omega⟩
    have hG : 0 < G.length := by cases G with | nil => exact absurd rfl h2 | cons _ _ => simp
    have e : wO n xs a = some (s + 1) := (wO_some hw ha (by omega)).2 hf.1
    refine .inr ⟨a0, a, h1.step (wO_dis hw) hf.2 e (fun x hx hnx hxm hxe => hn x hx ?_), by simp, lastN_snoc _ _, by omega, h5, h6, h7⟩
    rw [if_neg h2, h3]
    exact ⟨(wO_some hw hxm (by omega)).1 hxe, hnx⟩
theorem ShS.fits {n : Nat} {p : Int} {bs xs : List Int} {d0 : Nat} {G : List Nat} {r : Nat} (hw : Ways n p bs (cost1 p) xs) (hb : bL n p xs (n * n) = (d0 : Int)) (hd : d0 < 1000) (h : ShS n p bs xs d0 G r) (hr : 1 < r) : ∃ a, a < n * n ∧ fitP n p xs G r a := by
  rcases h with ⟨rfl, rfl⟩ | ⟨a0, b, h1, h2, h3, h4, h5, h6, h7⟩
  · obtain ⟨_, ⟨a, k1, k2, k3⟩, _⟩ := short_begin hw (by omega)
    refine ⟨a, k1, ?_⟩
    unfold fitP
    rw [if_pos rfl]
    exact ⟨by rw [k3, hb]; rfl, k2⟩
  · obtain ⟨s, rfl⟩ : ∃ s, r = s + 2 := ⟨r - 2, by omega⟩
    obtain ⟨j, k1, k2⟩ := Dist.next ((wO_dis hw b).1 _ h1.here)
    have hj := (wO_dis hw).get k2
    have hjm := ((wO_dis hw).low hj).1
    have hl := h1.len
    have hG : 0 < G.length := by cases G with | nil => exact absurd rfl h2 | cons _ _ => simp
    refine ⟨j, hjm, ?_⟩
    unfold fitP
    rw [if_neg h2, h3]
    exact ⟨(wO_some hw hjm (by omega)).1 hj, k1⟩
theorem ShS.fin {n : Nat} {p : Int} {bs xs : List Int} {d0 : Nat} {G : List Nat} (hw : Ways n p bs (cost1 p) xs) (hb : bL n p xs (n * n) = (d0 : Int)) (hd : d0 < 1000) (h : ShS n p bs xs d0 G 1) : brO n bs p = some G := by
  obtain ⟨q1, _, q3⟩ := short_begin hw (by omega)
  rcases h with ⟨rfl, e⟩ | ⟨a0, b, h1, h2, h3, h4, h5, h6, h7⟩
  · omega
  · refine brO_some (h1.fin (wO_dis hw) h5 h6 fun x hx e he => ⟨?_, fun e2 => ?_⟩)
    · have := q3 x hx e he
      omega
    · subst e2
      exact h7 x hx he
end Go.Proofs.YtlmgkmmdaecpdaaDoor.Im

namespace Go.Proofs.YtlmgkmmdaecpdaaDoor.Im
open Go.RowKit Go.Proofs.YtlmgkmmdaecpdaaDoorW.PrintWords Go.Proofs.YtlmgkmmdaecpdaaDoorW.PrintLast Go.Proofs.YtlmgkmmdaecpdaaDoorW.PrintMore
attribute [local go_sem] max2_int min2_int max_two min_two max_three min_three max_four min_four
set_option linter.unusedVariables false
set_option linter.unusedSimpArgs false
def slices_Index_int_int.l0 : Nat → List Int → Int → Int → Int → Option (Int)
  | 0, _, _, _, _ => none
  | k + 1, x0, x1, x7, x8 => if x8 < x7 then (if 0 ≤ x8 then (if x8 < (x0.length : Int) then (if x1 = (rd x0 x8) then (some x8) else (slices_Index_int_int.l0 k x0 x1 x7 (wrap64 (x8 + 1)))) else (none)) else (none)) else (some (-1))
def slices_Index_int_int.f (k : Nat) (l0 : List Int) (a1 : Int) : Option (Int) := slices_Index_int_int.l0 k l0 a1 (l0.length : Int) 0
theorem slices_Index_int_int.mono_l : ∀ k, (∀ y0 y1 y2 y3, LeO (slices_Index_int_int.l0 k y0 y1 y2 y3) (slices_Index_int_int.l0 (k + 1) y0 y1 y2 y3))
  | 0 => fun _ _ _ _ r h => by simp [slices_Index_int_int.l0] at h
  | k + 1 => by
    have ih0 := slices_Index_int_int.mono_l k
    · intro y0 y1 y2 y3
      unfold slices_Index_int_int.l0
      repeat' first
      | (with_reducible exact ih0 _ _ _ _)
      | (with_reducible exact LeO.refl _)
      | (with_reducible exact LeO.none _)
      | (with_reducible refine LeO.ite ?_ ?_)
      | (with_reducible refine LeO.bind ?_ (fun _ => ?_))
      | exact ih0 _ _ _ _
      | exact LeO.none _
      | refine LeO.ite ?_ ?_
      | refine LeO.bind ?_ (fun _ => ?_)
theorem slices_Index_int_int.mono : ∀ a0 a1 k, LeO (slices_Index_int_int.f k a0 a1) (slices_Index_int_int.f (k + 1) a0 a1) := by
  intro a0 a1 k
  have ih0 := slices_Index_int_int.mono_l k
  unfold slices_Index_int_int.f
  repeat' first
      | (with_reducible exact ih0 _ _ _ _)
      | (with_reducible exact LeO.refl _)
      | (with_reducible exact LeO.none _)
      | (with_reducible refine LeO.ite ?_ ?_)
      | (with_reducible refine LeO.bind ?_ (fun _ => ?_))
      | exact ih0 _ _ _ _
      | exact LeO.none _
      | refine LeO.ite ?_ ?_
      | refine LeO.bind ?_ (fun _ => ?_)
set_option maxHeartbeats 8000000 in
set_option maxRecDepth 100000 in
theorem slices_Index_int_int.calls (k : Nat) (A0 : Option Addr) (c0 : Nat) (l0 : List Int) (a1 : Int) (r : Int) (w : World) (hr0 : Kd.C (Kd.int .i64) w A0 l0.length l0) (hc0 : l0.length ≤ c0) (h : slices_Index_int_int.f k l0 a1 = some r) :
    Calls Tryd.prog 84 #[.slice A0 l0.length c0, .int .i64 a1] w fun e w' => e = .returned (.int .i64 r) ∧ Drawn0 w w' := by
  have HR0 := Aside0.mk hr0
  have HC0 := Aside0.mk hc0
  clear hr0 hc0
  have H : (slices_Index_int_int.l0 k l0 a1 (l0.length : Int) 0) = some r := h
  clear h
  have H' := Aside0.mk H
  clear H
  go_enter Tryd.func84, Tryd.ntmps84
  go_wp2
  go_loopg [8] k (fun kq v8 w' => ∃ (x8_1 : Int), v8 = .int .i64 x8_1 ∧ Aside0 (slices_Index_int_int.l0 kq l0 a1 (l0.length : Int) x8_1 = some r) ∧ Aside0 (kq ≤ k) ∧ Drawn0 w w')
  case atStart => exact ⟨(0), (by first | rfl | (simp; done) | (simp [*]; done)), H', ⟨Nat.le_refl _⟩, by repeat (first | exact Drawn0.refl _ | apply Drawn0.step)⟩
  case round =>
    clear H'
    try clear p2
    obtain ⟨x8_1, rfl, HA, HK1, ⟨m1, rfl⟩⟩ := hrel
    cases gk with
    | zero => exact absurd HA.out (by simp [slices_Index_int_int.l0])
    | succ k1 =>
      have H := HA.out
      clear HA
      simp only [slices_Index_int_int.l0] at H
      by_cases c3 : x8_1 < (l0.length : Int)
      · rw [if_pos c3] at H
        have c3b0 : decide (x8_1 < (l0.length : Int)) = true := decide_eq_true c3
        clear c3
        by_cases c4 : 0 ≤ x8_1
        · rw [if_pos c4] at H
          have c4b0 : decide (0 ≤ x8_1) = true := decide_eq_true c4
          clear c4
          by_cases c5 : x8_1 < (l0.length : Int)
          · rw [if_pos c5] at H
            have c5b0 : decide (x8_1 < (l0.length : Int)) = true := decide_eq_true c5
            clear c5
            by_cases c6 : a1 = (rd l0 x8_1)
            · rw [if_pos c6] at H
              have c6b0 : (a1 == (rd l0 x8_1)) = true := beq_iff_eq.mpr c6
              have c6b1 : (a1 != (rd l0 x8_1)) = false := bne_eq_false_iff_eq.mpr c6
              clear c6
              obtain rfl := Option.some.inj H
              have p234 : 0 ≤ (x8_1 : Int) := of_decide_eq_true (by first | (with_reducible assumption) | assumption)
              have q234 : x8_1 < (l0.length : Int) := of_decide_eq_true (by first | (with_reducible assumption) | assumption)
              obtain ⟨ad234, e234, hx234_0⟩ := Kd.at_int HR0.out x8_1 p234 q234
              cases e234
              replace p234 := eq_true p234
              replace q234 := eq_true q234
              go_wp2
              go_ret
              exact ⟨by first | rfl | (simp; done) | (simp [*]; done), by repeat (first | exact Drawn0.refl _ | apply Drawn0.step)⟩
            · rw [if_neg c6] at H
              have c6b0 : (a1 == (rd l0 x8_1)) = false := beq_eq_false_iff_ne.mpr c6
              have c6b1 : (a1 != (rd l0 x8_1)) = true := bne_iff_ne.mpr c6
              have H' := Aside0.mk H
              clear H
              have p234 : 0 ≤ (x8_1 : Int) := of_decide_eq_true (by first | (with_reducible assumption) | assumption)
              have q234 : x8_1 < (l0.length : Int) := of_decide_eq_true (by first | (with_reducible assumption) | assumption)
              obtain ⟨ad234, e234, hx234_0⟩ := Kd.at_int HR0.out x8_1 p234 q234
              cases e234
              replace p234 := eq_true p234
              replace q234 := eq_true q234
              go_wp2
              go_roundg k1
              case measure => have := HK1.out; omega
              case rel => exact ⟨(wrap64 (x8_1 + 1)), (by first | rfl | (simp; done) | (simp [*]; done)), H', ⟨by have := HK1.out; omega⟩, by repeat (first | exact Drawn0.refl _ | apply Drawn0.step)⟩
          · rw [if_neg c5] at H
            exact absurd H (by simp)
        · rw [if_neg c4] at H
          exact absurd H (by simp)
      · rw [if_neg c3] at H
        have c3b0 : decide (x8_1 < (l0.length : Int)) = false := decide_eq_false c3
        clear c3
        obtain rfl := Option.some.inj H
        go_wp2
        go_ret
        exact ⟨by first | rfl | (simp; done) | (simp [*]; done), by repeat (first | exact Drawn0.refl _ | apply Drawn0.step)⟩
def slices_Contains_int_int.f (k : Nat) (l0 : List Int) (a1 : Int) : Option (Bool) := (slices_Index_int_int.f k l0 a1).bind fun t235 => (some (decide (t235 ≥ 0)))
theorem slices_Contains_int_int.mono : ∀ a0 a1 k, LeO (slices_Contains_int_int.f k a0 a1) (slices_Contains_int_int.f (k + 1) a0 a1) := by
  intro a0 a1 k
  unfold slices_Contains_int_int.f
  repeat' first
      | (with_reducible exact slices_Index_int_int.mono _ _ _)
      | (with_reducible exact LeO.refl _)
      | (with_reducible exact LeO.none _)
      | (with_reducible refine LeO.ite ?_ ?_)
      | (with_reducible refine LeO.bind ?_ (fun _ => ?_))
      | exact slices_Index_int_int.mono _ _ _
      | exact LeO.none _
      | refine LeO.ite ?_ ?_
      | refine LeO.bind ?_ (fun _ => ?_)
set_option maxHeartbeats 8000000 in
set_option maxRecDepth 100000 in
theorem slices_Contains_int_int.calls (k : Nat) (A0 : Option Addr) (c0 : Nat) (l0 : List Int) (a1 : Int) (r : Bool) (w : World) (hr0 : Kd.C (Kd.int .i64) w A0 l0.length l0) (hc0 : l0.length ≤ c0) (h : slices_Contains_int_int.f k l0 a1 = some r) :
    Calls Tryd.prog 66 #[.slice A0 l0.length c0, .int .i64 a1] w fun e w' => e = .returned (.bool r) ∧ Drawn0 w w' := by
  have HR0 := Aside0.mk hr0
  have HC0 := Aside0.mk hc0
  clear hr0 hc0
  have H : ((slices_Index_int_int.f k l0 a1).bind fun t235 => (some (decide (t235 ≥ 0)))) = some r := h
  clear h
  replace H := Option.bind_eq_some_iff.mp H
  obtain ⟨t235, A30, H⟩ := H
  replace H : (some (decide (t235 ≥ 0))) = some r := H
  have A3 := Aside0.mk A30
  clear A30
  obtain rfl := Option.some.inj H
  go_enter Tryd.func66, Tryd.ntmps66
  go_wp2_with (first | ((with_reducible refine gate_callee (f := 84) rfl ?_); refine goesL_ (some 7) rfl rfl Tryd.func84 (by kernel_rfl) rfl #[.slice A0 l0.length c0, .int .i64 a1] rfl (by (try simp only [List.map_toArray, List.map_cons, List.map_nil]); first | done | rfl | (simp only [List.length_drop, List.length_take]; rfl)) ?_; (with_reducible refine (slices_Index_int_int.calls k _ _ l0 a1 t235 _ ?side1 ?side2 A3.out).mono ?_); (case side1 => repeat (first | exact HR0.out | (with_reducible refine Kd.C_alloc ?_ _) | (with_reducible refine Kd.C_drewN ?_ _) | (with_reducible refine Kd.C_drew ?_))); (case side2 => exact HC0.out); rintro e w' ⟨rfl, ⟨nd, rfl⟩⟩; refine ⟨_, rfl, ?_⟩))
  go_ret
  exact ⟨by first | rfl | (simp; done) | (simp [*]; done), by repeat (first | exact Drawn0.refl _ | apply Drawn0.step)⟩
def cmp_isNaN_int.f (a0 : Int) : Option (Bool) := some (a0 != a0)
set_option maxHeartbeats 8000000 in
set_option maxRecDepth 100000 in
theorem cmp_isNaN_int.calls (a0 : Int) (r : Bool) (w : World) (h : cmp_isNaN_int.f a0 = some r) :
    Calls Tryd.prog 121 #[.int .i64 a0] w fun e w' => e = .returned (.bool r) ∧ Drawn0 w w' := by
  have H : (some (a0 != a0)) = some r := h
  clear h
  obtain rfl := Option.some.inj H
  go_enter Tryd.func121, Tryd.ntmps121
  go_wp2
  go_ret
  exact ⟨by first | rfl | (simp; done) | (simp [*]; done), by repeat (first | exact Drawn0.refl _ | apply Drawn0.step)⟩
def cmp_Compare_int.f (a0 : Int) (a1 : Int) : Option (Int) := (cmp_isNaN_int.f a0).bind fun t235 => ((cmp_isNaN_int.f a1).bind fun t236 => (if t235 = true then (if t236 = true then (some 0) else (some (-1))) else (if t236 = true then (some 1) else (if a0 < a1 then (some (-1)) else (if a0 > a1 then (some 1) else (some 0))))))
set_option maxHeartbeats 8000000 in
set_option maxRecDepth 100000 in
theorem cmp_Compare_int.calls (a0 : Int) (a1 : Int) (r : Int) (w : World) (h : cmp_Compare_int.f a0 a1 = some r) :
    Calls Tryd.prog 99 #[.int .i64 a0, .int .i64 a1] w fun e w' => e = .returned (.int .i64 r) ∧ Drawn0 w w' := by
  have H : ((cmp_isNaN_int.f a0).bind fun t235 => ((cmp_isNaN_int.f a1).bind fun t236 => (if t235 = true then (if t236 = true then (some 0) else (some (-1))) else (if t236 = true then (some 1) else (if a0 < a1 then (some (-1)) else (if a0 > a1 then (some 1) else (some 0))))))) = some r := h
  clear h
  replace H := Option.bind_eq_some_iff.mp H
  obtain ⟨t235, A30, H⟩ := H
  replace H : ((cmp_isNaN_int.f a1).bind fun t236 => (if t235 = true then (if t236 = true then (some 0) else (some (-1))) else (if t236 = true then (some 1) else (if a0 < a1 then (some (-1)) else (if a0 > a1 then (some 1) else (some 0)))))) = some r := H
  have A3 := Aside0.mk A30
  clear A30
  replace H := Option.bind_eq_some_iff.mp H
  obtain ⟨t236, A40, H⟩ := H
  replace H : (if t235 = true then (if t236 = true then (some 0) else (some (-1))) else (if t236 = true then (some 1) else (if a0 < a1 then (some (-1)) else (if a0 > a1 then (some 1) else (some 0))))) = some r := H
  have A4 := Aside0.mk A40
  clear A40
  by_cases c5 : t235 = true
  · subst c5
    have H1 : (if t236 = true then (some 0) else (some (-1))) = some r := by rw [if_pos rfl] at H; exact H
    clear H
    have H := H1
    clear H1
    by_cases c6 : t236 = true
    · subst c6
      have H1 : (some 0) = some r := by rw [if_pos rfl] at H; exact H
      clear H
      have H := H1
      clear H1
      obtain rfl := Option.some.inj H
      go_enter Tryd.func99, Tryd.ntmps99
      go_wp2_with (first | ((with_reducible refine gate_callee (f := 121) rfl ?_); refine goesL_ (some 8) rfl rfl Tryd.func121 (by kernel_rfl) rfl #[.int .i64 a0] rfl (by (try simp only [List.map_toArray, List.map_cons, List.map_nil]); first | done | rfl | (simp only [List.length_drop, List.length_take]; rfl)) ?_; (with_reducible refine (cmp_isNaN_int.calls a0 true _ A3.out).mono ?_); rintro e w' ⟨rfl, ⟨nd, rfl⟩⟩; refine ⟨_, rfl, ?_⟩) | ((with_reducible refine gate_callee (f := 121) rfl ?_); refine goesL_ (some 10) rfl rfl Tryd.func121 (by kernel_rfl) rfl #[.int .i64 a1] rfl (by (try simp only [List.map_toArray, List.map_cons, List.map_nil]); first | done | rfl | (simp only [List.length_drop, List.length_take]; rfl)) ?_; (with_reducible refine (cmp_isNaN_int.calls a1 true _ A4.out).mono ?_); rintro e w' ⟨rfl, ⟨nd, rfl⟩⟩; refine ⟨_, rfl, ?_⟩))
      go_ret
      exact ⟨by first | rfl | (simp; done) | (simp [*]; done), by repeat (first | exact Drawn0.refl _ | apply Drawn0.step)⟩
    · replace c6 := Bool.eq_false_iff.mpr c6
      subst c6
      have H1 : (some (-1)) = some r := by rw [if_neg (show ¬ (false = true) by decide)] at H; exact H
      clear H
      have H := H1
      clear H1
      obtain rfl := Option.some.inj H
      go_enter Tryd.func99, Tryd.ntmps99
      go_wp2_with (first | ((with_reducible refine gate_callee (f := 121) rfl ?_); refine goesL_ (some 8) rfl rfl Tryd.func121 (by kernel_rfl) rfl #[.int .i64 a0] rfl (by (try simp only [List.map_toArray, List.map_cons, List.map_nil]); first | done | rfl | (simp only [List.length_drop, List.length_take]; rfl)) ?_; (with_reducible refine (cmp_isNaN_int.calls a0 true _ A3.out).mono ?_); rintro e w' ⟨rfl, ⟨nd, rfl⟩⟩; refine ⟨_, rfl, ?_⟩) | ((with_reducible refine gate_callee (f := 121) rfl ?_); refine goesL_ (some 10) rfl rfl Tryd.func121 (by kernel_rfl) rfl #[.int .i64 a1] rfl (by (try simp only [List.map_toArray, List.map_cons, List.map_nil]); first | done | rfl | (simp only [List.length_drop, List.length_take]; rfl)) ?_; (with_reducible refine (cmp_isNaN_int.calls a1 false _ A4.out).mono ?_); rintro e w' ⟨rfl, ⟨nd, rfl⟩⟩; refine ⟨_, rfl, ?_⟩))
      go_ret
      exact ⟨by first | rfl | (simp; done) | (simp [*]; done), by repeat (first | exact Drawn0.refl _ | apply Drawn0.step)⟩
  · replace c5 := Bool.eq_false_iff.mpr c5
    subst c5
    have H1 : (if t236 = true then (some 1) else (if a0 < a1 then (some (-1)) else (if a0 > a1 then (some 1) else (some 0)))) = some r := by rw [if_neg (show ¬ (false = true) by decide)] at H; exact H
    clear H
    have H := H1
    clear H1
    by_cases c7 : t236 = true
    · subst c7
      have H1 : (some 1) = some r := by rw [if_pos rfl] at H; exact H
      clear H
      have H := H1
      clear H1
      obtain rfl := Option.some.inj H
      go_enter Tryd.func99, Tryd.ntmps99
      go_wp2_with (first | ((with_reducible refine gate_callee (f := 121) rfl ?_); refine goesL_ (some 8) rfl rfl Tryd.func121 (by kernel_rfl) rfl #[.int .i64 a0] rfl (by (try simp only [List.map_toArray, List.map_cons, List.map_nil]); first | done | rfl | (simp only [List.length_drop, List.length_take]; rfl)) ?_; (with_reducible refine (cmp_isNaN_int.calls a0 false _ A3.out).mono ?_); rintro e w' ⟨rfl, ⟨nd, rfl⟩⟩; refine ⟨_, rfl, ?_⟩) | ((with_reducible refine gate_callee (f := 121) rfl ?_); refine goesL_ (some 10) rfl rfl Tryd.func121 (by kernel_rfl) rfl #[.int .i64 a1] rfl (by (try simp only [List.map_toArray, List.map_cons, List.map_nil]); first | done | rfl | (simp only [List.length_drop, List.length_take]; rfl)) ?_; (with_reducible refine (cmp_isNaN_int.calls a1 true _ A4.out).mono ?_); rintro e w' ⟨rfl, ⟨nd, rfl⟩⟩; refine ⟨_, rfl, ?_⟩))
      go_ret
      exact ⟨by first | rfl | (simp; done) | (simp [*]; done), by repeat (first | exact Drawn0.refl _ | apply Drawn0.step)⟩
    · replace c7 := Bool.eq_false_iff.mpr c7
      subst c7
      have H1 : (if a0 < a1 then (some (-1)) else (if a0 > a1 then (some 1) else (some 0))) = some r := by rw [if_neg (show ¬ (false = true) by decide)] at H; exact H
      clear H
      have H := H1
      clear H1
      by_cases c8 : a0 < a1
      · rw [if_pos c8] at H
        have c8b0 : decide (a0 < a1) = true := decide_eq_true c8
        clear c8
        obtain rfl := Option.some.inj H
        go_enter Tryd.func99, Tryd.ntmps99
        go_wp2_with (first | ((with_reducible refine gate_callee (f := 121) rfl ?_); refine goesL_ (some 8) rfl rfl Tryd.func121 (by kernel_rfl) rfl #[.int .i64 a0] rfl (by (try simp only [List.map_toArray, List.map_cons, List.map_nil]); first | done | rfl | (simp only [List.length_drop, List.length_take]; rfl)) ?_; (with_reducible refine (cmp_isNaN_int.calls a0 false _ A3.out).mono ?_); rintro e w' ⟨rfl, ⟨nd, rfl⟩⟩; refine ⟨_, rfl, ?_⟩) | ((with_reducible refine gate_callee (f := 121) rfl ?_); refine goesL_ (some 10) rfl rfl Tryd.func121 (by kernel_rfl) rfl #[.int .i64 a1] rfl (by (try simp only [List.map_toArray, List.map_cons, List.map_nil]); first | done | rfl | (simp only [List.length_drop, List.length_take]; rfl)) ?_; (with_reducible refine (cmp_isNaN_int.calls a1 false _ A4.out).mono ?_); rintro e w' ⟨rfl, ⟨nd, rfl⟩⟩; refine ⟨_, rfl, ?_⟩))
        go_ret
        exact ⟨by first | rfl | (simp; done) | (simp [*]; done), by repeat (first | exact Drawn0.refl _ | apply Drawn0.step)⟩
      · rw [if_neg c8] at H
        have c8b0 : decide (a0 < a1) = false := decide_eq_false c8
        clear c8
        by_cases c9 : a0 > a1
        · rw [if_pos c9] at H
          have c9b0 : decide (a1 < a0) = true := decide_eq_true c9
          clear c9
          obtain rfl := Option.some.inj H
          go_enter Tryd.func99, Tryd.ntmps99
          go_wp2_with (first | ((with_reducible refine gate_callee (f := 121) rfl ?_); refine goesL_ (some 8) rfl rfl Tryd.func121 (by kernel_rfl) rfl #[.int .i64 a0] rfl (by (try simp only [List.map_toArray, List.map_cons, List.map_nil]); first | done | rfl | (simp only [List.length_drop, List.length_take]; rfl)) ?_; (with_reducible refine (cmp_isNaN_int.calls a0 false _ A3.out).mono ?_); rintro e w' ⟨rfl, ⟨nd, rfl⟩⟩; refine ⟨_, rfl, ?_⟩) | ((with_reducible refine gate_callee (f := 121) rfl ?_); refine goesL_ (some 10) rfl rfl Tryd.func121 (by kernel_rfl) rfl #[.int .i64 a1] rfl (by (try simp only [List.map_toArray, List.map_cons, List.map_nil]); first | done | rfl | (simp only [List.length_drop, List.length_take]; rfl)) ?_; (with_reducible refine (cmp_isNaN_int.calls a1 false _ A4.out).mono ?_); rintro e w' ⟨rfl, ⟨nd, rfl⟩⟩; refine ⟨_, rfl, ?_⟩))
          go_ret
          exact ⟨by first | rfl | (simp; done) | (simp [*]; done), by repeat (first | exact Drawn0.refl _ | apply Drawn0.step)⟩
        · rw [if_neg c9] at H
          have c9b0 : decide (a1 < a0) = false := decide_eq_false c9
          clear c9
          obtain rfl := Option.some.inj H
          go_enter Tryd.func99, Tryd.ntmps99
          go_wp2_with (first | ((with_reducible refine gate_callee (f := 121) rfl ?_); refine goesL_ (some 8) rfl rfl Tryd.func121 (by kernel_rfl) rfl #[.int .i64 a0] rfl (by (try simp only [List.map_toArray, List.map_cons, List.map_nil]); first | done | rfl | (simp only [List.length_drop, List.length_take]; rfl)) ?_; (with_reducible refine (cmp_isNaN_int.calls a0 false _ A3.out).mono ?_); rintro e w' ⟨rfl, ⟨nd, rfl⟩⟩; refine ⟨_, rfl, ?_⟩) | ((with_reducible refine gate_callee (f := 121) rfl ?_); refine goesL_ (some 10) rfl rfl Tryd.func121 (by kernel_rfl) rfl #[.int .i64 a1] rfl (by (try simp only [List.map_toArray, List.map_cons, List.map_nil]); first | done | rfl | (simp only [List.length_drop, List.length_take]; rfl)) ?_; (with_reducible refine (cmp_isNaN_int.calls a1 false _ A4.out).mono ?_); rintro e w' ⟨rfl, ⟨nd, rfl⟩⟩; refine ⟨_, rfl, ?_⟩))
          go_ret
          exact ⟨by first | rfl | (simp; done) | (simp [*]; done), by repeat (first | exact Drawn0.refl _ | apply Drawn0.step)⟩
def slices_Compare_int_int.l0 : Nat → List Int → List Int → List Int → Int → Int → Option (Int)
  | 0, _, _, _, _, _ => none
  | k + 1, x0, x1, x9, x10, x11 => if x11 < x10 then (if 0 ≤ x11 then (if x11 < (x9.length : Int) then (if x11 ≥ (x1.length : Int) then (some 1) else (if x11 < (x1.length : Int) then ((cmp_Compare_int.f (rd x9 x11) (rd x1 x11)).bind fun t239 => (if t239 = 0 then (slices_Compare_int_int.l0 k x0 x1 x9 x10 (wrap64 (x11 + 1))) else (some t239))) else (none))) else (none)) else (none)) else (if (x0.length : Int) < (x1.length : Int) then (some (-1)) else (some 0))
def slices_Compare_int_int.f (k : Nat) (l0 : List Int) (l1 : List Int) : Option (Int) := slices_Compare_int_int.l0 k l0 l1 l0 (l0.length : Int) 0
theorem slices_Compare_int_int.mono_l : ∀ k, (∀ y0 y1 y2 y3 y4, LeO (slices_Compare_int_int.l0 k y0 y1 y2 y3 y4) (slices_Compare_int_int.l0 (k + 1) y0 y1 y2 y3 y4))
  | 0 => fun _ _ _ _ _ r h => by simp [slices_Compare_int_int.l0] at h
  | k + 1 => by
    have ih0 := slices_Compare_int_int.mono_l k
    · intro y0 y1 y2 y3 y4
      unfold slices_Compare_int_int.l0
      repeat' first
      | (with_reducible exact ih0 _ _ _ _ _)
      | (with_reducible exact LeO.refl _)
      | (with_reducible exact LeO.none _)
      | (with_reducible refine LeO.ite ?_ ?_)
      | (with_reducible refine LeO.bind ?_ (fun _ => ?_))
      | exact ih0 _ _ _ _ _
      | exact LeO.none _
      | refine LeO.ite ?_ ?_
      | refine LeO.bind ?_ (fun _ => ?_)
theorem slices_Compare_int_int.mono : ∀ a0 a1 k, LeO (slices_Compare_int_int.f k a0 a1) (slices_Compare_int_int.f (k + 1) a0 a1) := by
  intro a0 a1 k
  have ih0 := slices_Compare_int_int.mono_l k
  unfold slices_Compare_int_int.f
  repeat' first
      | (with_reducible exact ih0 _ _ _ _ _)
      | (with_reducible exact LeO.refl _)
      | (with_reducible exact LeO.none _)
      | (with_reducible refine LeO.ite ?_ ?_)
      | (with_reducible refine LeO.bind ?_ (fun _ => ?_))
      | exact ih0 _ _ _ _ _
      | exact LeO.none _
      | refine LeO.ite ?_ ?_
      | refine LeO.bind ?_ (fun _ => ?_)
set_option maxHeartbeats 8000000 in
set_option maxRecDepth 100000 in
theorem slices_Compare_int_int.calls (k : Nat) (A0 : Option Addr) (c0 : Nat) (l0 : List Int) (A1 : Option Addr) (c1 : Nat) (l1 : List Int) (r : Int) (w : World) (hr0 : Kd.C (Kd.int .i64) w A0 l0.length l0) (hc0 : l0.length ≤ c0) (hr1 : Kd.C (Kd.int .i64) w A1 l1.length l1) (hc1 : l1.length ≤ c1) (h : slices_Compare_int_int.f k l0 l1 = some r) :
    Calls Tryd.prog 86 #[.slice A0 l0.length c0, .slice A1 l1.length c1] w fun e w' => e = .returned (.int .i64 r) ∧ Drawn0 w w' := by
  have HR0 := Aside0.mk hr0
  have HC0 := Aside0.mk hc0
  clear hr0 hc0
  have HR1 := Aside0.mk hr1
  have HC1 := Aside0.mk hc1
  clear hr1 hc1
  have H : (slices_Compare_int_int.l0 k l0 l1 l0 (l0.length : Int) 0) = some r := h
  clear h
  have H' := Aside0.mk H
  clear H
  go_enter Tryd.func86, Tryd.ntmps86
  go_wp2
  go_loopg [11] k (fun kq v11 w' => ∃ (x11_1 : Int), v11 = .int .i64 x11_1 ∧ Aside0 (slices_Compare_int_int.l0 kq l0 l1 l0 (l0.length : Int) x11_1 = some r) ∧ Aside0 (kq ≤ k) ∧ Drawn0 w w')
  case atStart => exact ⟨(0), (by first | rfl | (simp; done) | (simp [*]; done)), H', ⟨Nat.le_refl _⟩, by repeat (first | exact Drawn0.refl _ | apply Drawn0.step)⟩
  case round =>
    clear H'
    try clear c1
    try clear p2
    obtain ⟨x11_1, rfl, HA, HK1, ⟨m1, rfl⟩⟩ := hrel
    cases gk with
    | zero => exact absurd HA.out (by simp [slices_Compare_int_int.l0])
    | succ k1 =>
      have H := HA.out
      clear HA
      simp only [slices_Compare_int_int.l0] at H
      by_cases c3 : x11_1 < (l0.length : Int)
      · rw [if_pos c3] at H
        have c3b0 : decide (x11_1 < (l0.length : Int)) = true := decide_eq_true c3
        clear c3
        by_cases c4 : 0 ≤ x11_1
        · rw [if_pos c4] at H
          have c4b0 : decide (0 ≤ x11_1) = true := decide_eq_true c4
          clear c4
          by_cases c5 : x11_1 < (l0.length : Int)
          · rw [if_pos c5] at H
            have c5b0 : decide (x11_1 < (l0.length : Int)) = true := decide_eq_true c5
            clear c5
            by_cases c6 : x11_1 ≥ (l1.length : Int)
            · rw [if_pos c6] at H
              have c6b0 : decide ((l1.length : Int) ≤ x11_1) = true := decide_eq_true c6
              clear c6
              obtain rfl := Option.some.inj H
              have p237 : 0 ≤ (x11_1 : Int) := of_decide_eq_true (by first | (with_reducible assumption) | assumption)
              have q237 : x11_1 < (l0.length : Int) := of_decide_eq_true (by first | (with_reducible assumption) | assumption)
              obtain ⟨ad237, e237, hx237_0⟩ := Kd.at_int HR0.out x11_1 p237 q237
              cases e237
              replace p237 := eq_true p237
              replace q237 := eq_true q237
              go_wp2
              go_ret
              exact ⟨by first | rfl | (simp; done) | (simp [*]; done), by repeat (first | exact Drawn0.refl _ | apply Drawn0.step)⟩
            · rw [if_neg c6] at H
              have c6b0 : decide ((l1.length : Int) ≤ x11_1) = false := decide_eq_false c6
              clear c6
              by_cases c7 : x11_1 < (l1.length : Int)
              · rw [if_pos c7] at H
                have c7b0 : decide (x11_1 < (l1.length : Int)) = true := decide_eq_true c7
                clear c7
                replace H := Option.bind_eq_some_iff.mp H
                obtain ⟨t239, A80, H⟩ := H
                replace H : (if t239 = 0 then (slices_Compare_int_int.l0 k1 l0 l1 l0 (l0.length : Int) (wrap64 (x11_1 + 1))) else (some t239)) = some r := H
                have A8 := Aside0.mk A80
                clear A80
                by_cases c9 : t239 = 0
                · rw [if_pos c9] at H
                  have c9b0 : (t239 == 0) = true := beq_iff_eq.mpr c9
                  have c9b1 : (t239 != 0) = false := bne_eq_false_iff_eq.mpr c9
                  clear c9
                  have H' := Aside0.mk H
                  clear H
                  have p237 : 0 ≤ (x11_1 : Int) := of_decide_eq_true (by first | (with_reducible assumption) | assumption)
                  have q237 : x11_1 < (l0.length : Int) := of_decide_eq_true (by first | (with_reducible assumption) | assumption)
                  obtain ⟨ad237, e237, hx237_0⟩ := Kd.at_int HR0.out x11_1 p237 q237
                  cases e237
                  replace p237 := eq_true p237
                  replace q237 := eq_true q237
                  have p238 : 0 ≤ (x11_1 : Int) := of_decide_eq_true (by first | (with_reducible assumption) | assumption)
                  have q238 : x11_1 < (l1.length : Int) := of_decide_eq_true (by first | (with_reducible assumption) | assumption)
                  obtain ⟨ad238, e238, hx238_0⟩ := Kd.at_int HR1.out x11_1 p238 q238
                  cases e238
                  replace p238 := eq_true p238
                  replace q238 := eq_true q238
                  go_wp2_with (first | ((with_reducible refine gate_callee (f := 99) rfl ?_); refine goesL_ (some 26) rfl rfl Tryd.func99 (by kernel_rfl) rfl #[.int .i64 (rd l0 x11_1), .int .i64 (rd l1 x11_1)] rfl (by (try simp only [List.map_toArray, List.map_cons, List.map_nil]); first | done | rfl | (simp only [List.length_drop, List.length_take]; rfl)) ?_; (with_reducible refine (cmp_Compare_int.calls (rd l0 x11_1) (rd l1 x11_1) t239 _ A8.out).mono ?_); rintro e w' ⟨rfl, ⟨nd, rfl⟩⟩; refine ⟨_, rfl, ?_⟩))
                  go_roundg k1
                  case measure => have := HK1.out; omega
                  case rel => exact ⟨(wrap64 (x11_1 + 1)), (by first | rfl | (simp; done) | (simp [*]; done)), H', ⟨by have := HK1.out; omega⟩, by repeat (first | exact Drawn0.refl _ | apply Drawn0.step)⟩
                · rw [if_neg c9] at H
                  have c9b0 : (t239 == 0) = false := beq_eq_false_iff_ne.mpr c9
                  have c9b1 : (t239 != 0) = true := bne_iff_ne.mpr c9
                  obtain rfl := Option.some.inj H
                  have p237 : 0 ≤ (x11_1 : Int) := of_decide_eq_true (by first | (with_reducible assumption) | assumption)
                  have q237 : x11_1 < (l0.length : Int) := of_decide_eq_true (by first | (with_reducible assumption) | assumption)
                  obtain ⟨ad237, e237, hx237_0⟩ := Kd.at_int HR0.out x11_1 p237 q237
                  cases e237
                  replace p237 := eq_true p237
                  replace q237 := eq_true q237
                  have p238 : 0 ≤ (x11_1 : Int) := of_decide_eq_true (by first | (with_reducible assumption) | assumption)
                  have q238 : x11_1 < (l1.length : Int) := of_decide_eq_true (by first | (with_reducible assumption) | assumption)
                  obtain ⟨ad238, e238, hx238_0⟩ := Kd.at_int HR1.out x11_1 p238 q238
                  cases e238
                  replace p238 := eq_true p238
                  replace q238 := eq_true q238
                  go_wp2_with (first | ((with_reducible refine gate_callee (f := 99) rfl ?_); refine goesL_ (some 26) rfl rfl Tryd.func99 (by kernel_rfl) rfl #[.int .i64 (rd l0 x11_1), .int .i64 (rd l1 x11_1)] rfl (by (try simp only [List.map_toArray, List.map_cons, List.map_nil]); first | done | rfl | (simp only [List.length_drop, List.length_take]; rfl)) ?_; (with_reducible refine (cmp_Compare_int.calls (rd l0 x11_1) (rd l1 x11_1) t239 _ A8.out).mono ?_); rintro e w' ⟨rfl, ⟨nd, rfl⟩⟩; refine ⟨_, rfl, ?_⟩))
                  go_ret
                  exact ⟨by first | rfl | (simp; done) | (simp [*]; done), by repeat (first | exact Drawn0.refl _ | apply Drawn0.step)⟩
              · rw [if_neg c7] at H
                exact absurd H (by simp)
          · rw [if_neg c5] at H
            exact absurd H (by simp)
        · rw [if_neg c4] at H
          exact absurd H (by simp)
      · rw [if_neg c3] at H
        have c3b0 : decide (x11_1 < (l0.length : Int)) = false := decide_eq_false c3
        clear c3
        by_cases c10 : (l0.length : Int) < (l1.length : Int)
        · rw [if_pos c10] at H
          have c10b0 : decide ((l0.length : Int) < (l1.length : Int)) = true := decide_eq_true c10
          have c10b1 : decide (l0.length < l1.length) = true := decide_eq_true (Int.ofNat_lt.mp c10)
          clear c10
          obtain rfl := Option.some.inj H
          go_wp2
          go_ret
          exact ⟨by first | rfl | (simp; done) | (simp [*]; done), by repeat (first | exact Drawn0.refl _ | apply Drawn0.step)⟩
        · rw [if_neg c10] at H
          have c10b0 : decide ((l0.length : Int) < (l1.length : Int)) = false := decide_eq_false c10
          have c10b1 : decide (l0.length < l1.length) = false := decide_eq_false (fun h => c10 (Int.ofNat_lt.mpr h))
          clear c10
          obtain rfl := Option.some.inj H
          go_wp2
          go_ret
          exact ⟨by first | rfl | (simp; done) | (simp [*]; done), by repeat (first | exact Drawn0.refl _ | apply Drawn0.step)⟩
end Go.Proofs.YtlmgkmmdaecpdaaDoor.Im

namespace Go.Proofs.YtlmgkmmdaecpdaaDoor.Im
open Go.RowKit Go.Proofs.YtlmgkmmdaecpdaaDoorW.PrintWords Go.Proofs.YtlmgkmmdaecpdaaDoorW.PrintLast Go.Proofs.YtlmgkmmdaecpdaaDoorW.PrintMore Go.Proofs.YtlmgkmmdaecpdaaDoor.Mi
set_option linter.unusedVariables false
theorem bl_getD {l : List UInt8} {a : Nat} {b : UInt8} (hb : b ≠ 0) (h : l.getD a 0 = b) : l[a]? = some b := by
  cases k : l[a]? with
  | none =>
    rw [List.getD, k] at h
    exact absurd h.symm hb
  | some c =>
    rw [List.getD, k] at h
    exact congrArg some h
theorem bl_byte (l : List UInt8) (a : Nat) : (bl l).getD a 0 = ((l.getD a 0).toNat : Int) := by
  unfold bl
  rw [List.getD, List.getD, List.getElem?_map]
  cases l[a]? <;> rfl
theorem byte_eq {a b : UInt8} : (a.toNat : Int) = (b.toNat : Int) ↔ a = b := ⟨fun h => UInt8.toNat_inj.1 (by omega), fun h => by rw [h]⟩
theorem gv_x_won {n : Nat} {l : List UInt8} (h : winB n (bl l) = 120) : gv n l = 120 := by
  rw [gv_won (by rw [h]; decide), h]
end Go.Proofs.YtlmgkmmdaecpdaaDoor.Im

namespace Go.Proofs.YtlmgkmmdaecpdaaDoor.Im
open Go.RowKit Go.Proofs.YtlmgkmmdaecpdaaDoorW.PrintWords Go.Proofs.YtlmgkmmdaecpdaaDoorW.PrintLast Go.Proofs.YtlmgkmmdaecpdaaDoorW.PrintMore Go.Proofs.YtlmgkmmdaecpdaaDoor.Mi
set_option linter.unusedVariables false
section
variable {m : Nat} {nb : Nat → Nat → Prop} {ok en : Nat → Prop}
theorem lastN_get : ∀ {Q : List Nat} (h : 0 < Q.length), lastN Q = Q[Q.length - 1]
  | [p], _ => rfl
  | p :: q :: t, _ => by
    have ih := lastN_get (Q := q :: t) (by simp)
    show lastN (q :: t) = _
    rw [ih]
    rfl
end
theorem rd_inq {Q : List Nat} {i : Nat} (h : i < Q.length) : rd (ints Q) (i : Int) = (Q[i] : Int) := by
  have hl : i < (ints Q).length := by unfold ints; rw [List.length_map]; exact h
  rw [rd_get hl]
  simp [ints]
theorem ints_len (Q : List Nat) : (ints Q).length = Q.length := by unfold ints; rw [List.length_map]
end Go.Proofs.YtlmgkmmdaecpdaaDoor.Im

namespace Go.Proofs.YtlmgkmmdaecpdaaDoor.Im
open Go.RowKit Go.Proofs.YtlmgkmmdaecpdaaDoorW.PrintWords Go.Proofs.YtlmgkmmdaecpdaaDoorW.PrintLast Go.Proofs.YtlmgkmmdaecpdaaDoorW.PrintMore Go.Proofs.YtlmgkmmdaecpdaaDoor.Mi
attribute [local go_sem] min2_a min2_b min_two
set_option linter.unusedVariables false
set_option linter.unusedSimpArgs false
set_option maxHeartbeats 6400000 in
set_option maxRecDepth 100000 in
theorem shortest_any (n : Nat) (s : ByteArray) (p : Int) (w : World) (hn : 1 ≤ n) (h11 : n ≤ 11) (hsz : s.size = n * n) (hp : p = 120 ∨ p = 111) :
    Calls Tryd.prog 65 #[.int .i64 n, .string s, .int .u8 p] w fun e w' => ∃ v, e = .returned v ∧ Kd.R (Kd.int .i64) 3 w' w.heap.size (fun _ => True) v (ints ((brO n (bsOf s) p).getD [])) ∧ Below w.heap.size w w' := by
  have HWy := Aside0.mk (ways_any n s p 1 1000 (cost1 p) w (cst_one p) hn h11 hsz hp)
  have HBe := Aside0.mk (fun (i : Nat) w1 => begins_q n i p hn hp w1)
  have hM : n * n ≤ 121 := Nat.mul_le_mul h11 h11
  obtain ⟨M, hMM⟩ : ∃ M, n * n = M := ⟨_, rfl⟩
  have HMM := Aside0.mk hMM
  have hnn : (n : Int) * (n : Int) = (M : Int) := by rw [← hMM, Int.natCast_mul]
  rw [hMM] at hM HWy
  have m0 : (0 : Int) ≤ (M : Int) := by omega
  have m1 : (M : Int) ≤ 121 := by omega
  have HNr := Aside0.mk (fun (a b : Nat) (ha : a < M) (hb : b < M) (w1 : World) => near_q n a b hn (by omega) (by omega) w1)
  clear hsz hMM hp
  go_enter Tryd.func65, Tryd.ntmps65
  go_wp2_with fail
  refine HWy.out.mono ?_
  rintro e w2 ⟨b, xs, rfl, hX, hbb, hW, hb2⟩
  have HX := Aside0.mk hX
  have HW := Aside0.mk hW
  have HB2 := Aside0.mk hb2
  have HBB := Aside0.mk hbb
  clear hX hW hb2 HWy hbb
  go_wp2_with fail
  go_loopw [8, 9] (fun v8 v9 wr => ∃ i : Nat, i ≤ M ∧ v9 = .int .i64 (i : Int) ∧ v8 = .int .i64 (bL n p xs i) ∧ Aside0 (Below w2.heap.size w2 wr)) (fun _ v _ => M - (intOf v).toNat)
  case atStart => exact ⟨0, Nat.zero_le _, rfl, rfl, ⟨Below.refl _ _⟩⟩
  case round =>
    obtain ⟨i, hi, rfl, rfl, HBw⟩ := hrel
    have HBW := Aside0.mk (below_then HB2.out HB2.out.size HBw.out)
    by_cases hiM : i < M
    · have g1 : decide ((i : Int) < (M : Int)) = true := decide_eq_true (by omega)
      have g2 : decide (i < M) = true := decide_eq_true hiM
      have u0 : (0 : Int) ≤ (i : Int) := by omega
      have u1 : (i : Int) < (M : Int) := by omega
      have hbe := HBe.out i wr
      have hst : bL n p xs (i + 1) = if beP n p i then (if rd xs (i : Int) < bL n p xs i then rd xs (i : Int) else bL n p xs i) else bL n p xs i := rfl
      obtain ⟨bi, hbi⟩ : ∃ x, bL n p xs i = x := ⟨_, rfl⟩
      obtain ⟨xi, hxi⟩ : ∃ x, rd xs (i : Int) = x := ⟨_, rfl⟩
      rw [hbi, hxi] at hst
      rw [hbi]
      have HXI := Aside0.mk hxi
      clear hbi hxi
      cases hb : decide (beP n p i)
      · rw [hb] at hbe
        rw [if_neg (of_decide_eq_false hb)] at hst
        have HBE := Aside0.mk hbe
        have HST := Aside0.mk hst
        clear hbe hst hb
        go_wp2_with fail
        refine HBE.out.mono ?_
        rintro e w4 ⟨rfl, hb4⟩
        have HB4 := Aside0.mk (below_then HBw.out HBw.out.size hb4)
        clear hb4
        go_wp2_with fail
        go_roundw
        case rel => exact ⟨i + 1, hiM, by go_num, by rw [HST.out], HB4⟩
        case measure => simp [intOf]; omega
      · rw [hb] at hbe
        rw [if_pos (of_decide_eq_true hb)] at hst
        have HBE := Aside0.mk hbe
        by_cases hl : xi < bi
        · rw [if_pos hl] at hst
          have HST := Aside0.mk hst
          clear hbe hst hb
          go_wp2_with fail
          refine HBE.out.mono ?_
          rintro e w4 ⟨rfl, hb4⟩
          have HB4 := Aside0.mk (below_then HBw.out HBw.out.size hb4)
          have ci : w4.cell? ⟨b, i, none⟩ = some (.int .i64 xi) := by rw [(HX.out.later HB4.out).get hiM, HXI.out]
          clear hb4
          go_wp2_with fail
          go_roundw
          case rel => exact ⟨i + 1, hiM, by go_num, by rw [HST.out], HB4⟩
          case measure => simp [intOf]; omega
        · rw [if_neg hl] at hst
          have HST := Aside0.mk hst
          have hl2 : bi ≤ xi := by omega
          clear hbe hst hb hl
          go_wp2_with fail
          refine HBE.out.mono ?_
          rintro e w4 ⟨rfl, hb4⟩
          have HB4 := Aside0.mk (below_then HBw.out HBw.out.size hb4)
          have ci : w4.cell? ⟨b, i, none⟩ = some (.int .i64 xi) := by rw [(HX.out.later HB4.out).get hiM, HXI.out]
          clear hb4
          go_wp2_with fail
          go_roundw
          case rel => exact ⟨i + 1, hiM, by go_num, by rw [HST.out], HB4⟩
          case measure => simp [intOf]; omega
    · have g1 : decide ((i : Int) < (M : Int)) = false := decide_eq_false (by omega)
      have g2 : decide (i < M) = false := decide_eq_false hiM
      obtain rfl : M = i := by omega
      obtain ⟨B, hB⟩ : ∃ B, bL n p xs M = B := ⟨_, rfl⟩
      rw [hB]
      have hbl := bL_le (n := n) (p := p) (xs := xs) (m := M)
      rw [hB] at hbl
      have hB1000 := hbl.2.2
      have hBn : bL n p xs (n * n) = B := by rw [HMM.out, hB]
      by_cases hlt : B < 1000
      · obtain ⟨d0, rfl⟩ : ∃ d0 : Nat, B = (d0 : Int) := ⟨B.toNat, by have := (short_begin HW.out (by rw [hBn]; exact hlt)).1; rw [hBn] at this; omega⟩
        have HBL := Aside0.mk hBn
        have hd1000 : d0 < 1000 := by omega
        have q1 : decide ((d0 : Int) < 1000) = true := decide_eq_true hlt
        have q1' : decide (d0 < 1000) = true := decide_eq_true hd1000
        clear hB hbl hBn hB1000 hlt g1 g2 hi hiM
        go_wp2_with fail
        go_loopg [10, 11, 12] (d0 + 2) (fun gq v10 v11 v12 w3 => ∃ (G : List Nat) (r : Nat), Aside0 (r < gq) ∧ Aside0 (ShS n p (bsOf s) xs d0 G r) ∧ Aside0 (Kd.R (Kd.int .i64) 3 w3 w2.heap.size (fun _ => True) v10 (ints G)) ∧ Aside0 (Below w2.heap.size w2 w3))
        case atStart => exact ⟨[], d0 + 1, ⟨by omega⟩, ⟨.inl ⟨rfl, rfl⟩⟩, ⟨Kd.R_nil _ _ _ _ _⟩, HBw⟩
        case round =>
          clear HBw HBW
          obtain ⟨G, r, HQ, HS, HR, HBw⟩ := hrel
          have HBW := Aside0.mk (below_then HB2.out HB2.out.size HBw.out)
          generalize gk = gO at *
          generalize wr = w3 at *
          obtain ⟨A, c, rfl, hl, hC⟩ := Kd.R_reads HR.out
          have hil := ints_length G
          rw [hil] at hl HR ⊢
          have hlen := HS.out.len
          obtain ⟨K, hK⟩ : ∃ K, G.length = K := ⟨_, rfl⟩
          rw [hK] at hlen hl HR ⊢
          have HK := Aside0.mk hK
          clear hC hil hK
          by_cases hr1 : r ≤ 1
          · have k1 : decide ((K : Int) < (d0 : Int)) = false ∨ r = 0 := by
              rcases Nat.eq_zero_or_pos r with h | h
              · exact .inr h
              · exact .inl (decide_eq_false (by omega))
            have hr : r = 1 := by
              rcases HS.out with ⟨_, h⟩ | ⟨_, _, _, _, _, h, _⟩ <;> omega
            subst hr
            have g3 : decide ((K : Int) < (d0 : Int)) = false := decide_eq_false (by omega)
            have g4 : decide (K < d0) = false := decide_eq_false (by omega)
            have HFin := Aside0.mk (HS.out.fin HW.out HBL.out hd1000)
            have HRR := Aside0.mk (Kd.R_lower HR.out HB2.out.size)
            clear k1 hlen
            go_wp2_with fail
            go_ret
            refine ⟨_, rfl, ?_, HBW.out⟩
            rw [HFin.out]
            exact HRR.out
          · have g3 : decide ((K : Int) < (d0 : Int)) = true := decide_eq_true (by omega)
            have g4 : decide (K < d0) = true := decide_eq_true (by omega)
            obtain ⟨t, ht⟩ : ∃ t, r = t + 1 := ⟨r - 1, by omega⟩
            have w1' : (d0 : Int) - (K : Int) = (t : Int) := by omega
            have w2' : wrap64 ((d0 : Int) - (K : Int)) = (t : Int) := by unfold wrap64; omega
            have HT : Aside0 ((r - 1 : Nat) = t ∧ 1 < r) := ⟨by omega, by omega⟩
            have HEx := Aside0.mk (HS.out.fits HW.out HBL.out hd1000 (by omega))
            have hl1000 : K ≤ 1000 := by omega
            clear hlen hr1 ht
            rcases List.eq_nil_or_concat G with hG | ⟨G0, y, hG⟩
            · have hK0 : K = 0 := by rw [← HK.out, hG]; rfl
              have k0 : ((K : Int) == 0) = true := beq_iff_eq.2 (by omega)
              have HFit : Aside0 (∀ a, fitP n p xs G r a ↔ rd xs (a : Int) = (t : Int) ∧ beP n p a) := ⟨fun a => by unfold fitP; rw [if_pos hG, HT.out.1]⟩
              clear hG hK0
              go_wp2_with fail
              go_loopw [10, 11, 12] (fun v10 v11 v12 w4 => ∃ a : Nat, a ≤ M ∧ v10 = .slice A K c ∧ v11 = .int .i64 (a : Int) ∧ Aside0 (∀ x, x < a → ¬ fitP n p xs G r x) ∧ Aside0 (Below w3.heap.size w3 w4)) (fun _ v _ _ => M - (intOf v).toNat)
              case atStart => exact ⟨0, Nat.zero_le _, rfl, rfl, ⟨fun x h => absurd h (by omega)⟩, ⟨Below.refl _ _⟩⟩
              case round =>
                obtain ⟨a, ha, rfl, rfl, HNo, HB4⟩ := hrel
                have HB4w := Aside0.mk (below_then HBw.out HBw.out.size HB4.out)
                by_cases haM : a < M
                · have g5 : decide ((a : Int) < (M : Int)) = true := decide_eq_true (by omega)
                  have g6 : decide (a < M) = true := decide_eq_true haM
                  have u0 : (0 : Int) ≤ (a : Int) := by omega
                  have u1 : (a : Int) < (M : Int) := by omega
                  have ca := (HX.out.later HB4w.out).get haM
                  obtain ⟨va, hva⟩ : ∃ x, rd xs (a : Int) = x := ⟨_, rfl⟩
                  rw [hva] at ca
                  have hfa := HFit.out a
                  rw [hva] at hfa
                  have HFA := Aside0.mk hfa
                  have HNX : Aside0 (¬ fitP n p xs G r a → ∀ x, x < a + 1 → ¬ fitP n p xs G r x) := ⟨fun h x hx => by
                    rcases Nat.lt_or_ge x a with k | k
                    · exact HNo.out x k
                    · obtain rfl : x = a := by omega
                      exact h⟩
                  clear hva hfa
                  by_cases hv : va = (t : Int)
                  · have q2 : (va == (t : Int)) = true := beq_iff_eq.2 hv
                    cases hb : decide (beP n p a)
                    · have HN2 := Aside0.mk (HNX.out (fun h => absurd (HFA.out.1 h).2 (of_decide_eq_false hb)))
                      have hbe := HBe.out a wr
                      rw [hb] at hbe
                      have HBE := Aside0.mk hbe
                      clear hbe hb hv
                      go_wp2_with fail
                      refine HBE.out.mono ?_
                      rintro e w5 ⟨rfl, hb5⟩
                      have HB5 := Aside0.mk (below_then HB4.out HB4.out.size hb5)
                      clear hb5
                      go_wp2_with fail
                      go_roundw
                      case rel => exact ⟨a + 1, haM, rfl, by go_num, HN2, HB5⟩
                      case measure => simp [intOf]; omega
                    · have hfit := HFA.out.2 ⟨hv, of_decide_eq_true hb⟩
                      have HNS := Aside0.mk (HS.out.step HW.out hd1000 HT.out.2 (by rw [HMM.out]; exact haM) hfit HNo.out)
                      clear hfit
                      have hbe := HBe.out a wr
                      rw [hb] at hbe
                      have HBE := Aside0.mk hbe
                      clear hbe hb hv
                      go_wp2_with fail
                      refine HBE.out.mono ?_
                      rintro e w5 ⟨rfl, hb5⟩
                      have HB5 := Aside0.mk (below_then HB4.out HB4.out.size hb5)
                      clear hb5
                      have HB5w := Aside0.mk (below_then HBw.out HBw.out.size HB5.out)
                      have HR5 := Aside0.mk (Kd.R_below HR.out HB5.out)
                      have hGil := ints_length G
                      have hKK := HK.out
                      go_wp2_with (first | ((with_reducible refine gate_builtin (b := .append) (xs := #[.tmp 81, .tmp 83]) rfl ?_); at_builtin; refine Kd.R_append (Kd.int .i64) (w0 := w2) w2.heap.size rfl (.tmp 81) (.tmp 83) 34 3 (.int .i64 0) 8 rfl Tryd.underlying34 info3 rfl (by decide) (by omega) (.slice A K c) (ints G) (a : Int) [.int .i64 a] (fun _ => True) (fun _ => False) rfl rfl rfl (fun _ hk => hk.elim) (fun _ _ => trivial) HR5.out HB5w.out HB5w.out.size (by omega) ?_; intro v9 w9 ho hb hg hat; have HO9 := Aside0.mk ho; have HB9 := Aside0.mk hb; clear ho hb hg hat))
                      go_roundg (gO - 1)
                      case measure => have := HQ.out; omega
                      case rel => exact ⟨G ++ [a], r - 1, ⟨by have := HQ.out; have := HT.out.2; omega⟩, HNS, ⟨by rw [ints_append]; exact HO9.out⟩, HB9⟩
                  · have q2 : (va == (t : Int)) = false := beq_eq_false_iff_ne.2 hv
                    have HN2 := Aside0.mk (HNX.out (fun h => hv (HFA.out.1 h).1))
                    clear hv
                    go_wp2_with fail
                    go_roundw
                    case rel => exact ⟨a + 1, haM, rfl, by go_num, HN2, HB4⟩
                    case measure => simp [intOf]; omega
                · exfalso
                  obtain ⟨x, hx, hfx⟩ := HEx.out
                  rw [HMM.out] at hx
                  exact HNo.out x (by omega) hfx
            · have hK0 : 0 < K := by rw [← HK.out, hG]; simp
              have k0 : ((K : Int) == 0) = false := beq_eq_false_iff_ne.2 (by omega)
              have hGne : G ≠ [] := by rw [hG]; simp
              have hlast : lastN G = y := by rw [hG, List.concat_eq_append]; exact lastN_snoc _ _
              have HFit : Aside0 (∀ a, fitP n p xs G r a ↔ rd xs (a : Int) = (t : Int) ∧ NearN n y a) := ⟨fun a => by unfold fitP; rw [if_neg hGne, HT.out.1, hlast]⟩
              obtain ⟨gA, cA, eA, _⟩ := Kd.R_form HR.out (by rw [ints_length, HK.out]; exact hK0)
              rw [ints_length, HK.out] at eA
              injection eA with eA1 eA2 eA3
              subst eA1
              obtain ⟨j, hj⟩ : ∃ j, K = j + 1 := ⟨K - 1, by omega⟩
              have e1 : (K : Int) - 1 = (j : Int) := by omega
              have e2 : wrap64 ((K : Int) - 1) = (j : Int) := by unfold wrap64; omega
              obtain ⟨hy1, _⟩ := Kd.R_celln 0 HR.out (j : Int) (by omega) (by omega)
              have hyc : w3.cell? ⟨gA, j, none⟩ = some (.int .i64 (y : Nat)) := by
                rw [Int.toNat_natCast] at hy1
                rw [hy1]
                have hjl : j < G.length := by rw [HK.out]; omega
                have hgj : G[j] = y := by
                  rw [lastN_get (by omega)] at hlast
                  rw [← hlast]
                  congr 1
                  rw [HK.out]; omega
                rw [show rdOf 0 (ints G) (j : Int) = rd (ints G) (j : Int) from rfl, rd_inq hjl, hgj]
              have hyM : y < M := by
                rcases HS.out with ⟨h, _⟩ | ⟨a0, b', h1, _, h3, _⟩
                · exact absurd h hGne
                · rw [← HMM.out, ← hlast, h3]
                  exact ((wO_dis HW.out).low h1.here).1
              have v0 : (0 : Int) ≤ (j : Int) := by omega
              have v1 : (j : Int) < (K : Int) := by omega
              clear hG hK0 hGne hlast hy1 hj eA2 eA3
              go_wp2_with fail
              go_loopw [10, 11, 12] (fun v10 v11 v12 w4 => ∃ a : Nat, a ≤ M ∧ v10 = .slice (some ⟨gA, 0, none⟩) K c ∧ v11 = .int .i64 (a : Int) ∧ Aside0 (∀ x, x < a → ¬ fitP n p xs G r x) ∧ Aside0 (Below w3.heap.size w3 w4)) (fun _ v _ _ => M - (intOf v).toNat)
              case atStart => exact ⟨0, Nat.zero_le _, rfl, rfl, ⟨fun x h => absurd h (by omega)⟩, ⟨Below.refl _ _⟩⟩
              case round =>
                obtain ⟨a, ha, rfl, rfl, HNo, HB4⟩ := hrel
                have HB4w := Aside0.mk (below_then HBw.out HBw.out.size HB4.out)
                by_cases haM : a < M
                · have g5 : decide ((a : Int) < (M : Int)) = true := decide_eq_true (by omega)
                  have g6 : decide (a < M) = true := decide_eq_true haM
                  have u0 : (0 : Int) ≤ (a : Int) := by omega
                  have u1 : (a : Int) < (M : Int) := by omega
                  have ca := (HX.out.later HB4w.out).get haM
                  obtain ⟨va, hva⟩ : ∃ x, rd xs (a : Int) = x := ⟨_, rfl⟩
                  rw [hva] at ca
                  have hfa := HFit.out a
                  rw [hva] at hfa
                  have HFA := Aside0.mk hfa
                  have HNX : Aside0 (¬ fitP n p xs G r a → ∀ x, x < a + 1 → ¬ fitP n p xs G r x) := ⟨fun h x hx => by
                    rcases Nat.lt_or_ge x a with k | k
                    · exact HNo.out x k
                    · obtain rfl : x = a := by omega
                      exact h⟩
                  clear hva hfa
                  have hyc4 : wr.cell? ⟨gA, j, none⟩ = some (.int .i64 (y : Nat)) := pw_cell_below HB4.out hyc
                  have HNab := Aside0.mk (show Calls Tryd.prog 68 #[.int .i64 n, .int .i64 y, .int .i64 a] wr fun e w' => e = .returned (.bool (decide (NearN n y a))) ∧ Below wr.heap.size wr w' from (HNr.out y a hyM haM wr).mono fun e w' ⟨h1, m, h2⟩ => ⟨h1, by rw [h2]; exact pw_below_drewN (Below.refl _ _) m⟩)
                  by_cases hv : va = (t : Int)
                  · have q2 : (va == (t : Int)) = true := beq_iff_eq.2 hv
                    cases hb : decide (NearN n y a)
                    · have HN2 := Aside0.mk (HNX.out (fun h => absurd (HFA.out.1 h).2 (of_decide_eq_false hb)))
                      have hbe := HNab.out
                      rw [hb] at hbe
                      have HBE := Aside0.mk hbe
                      clear hbe hb hv
                      go_wp2_with fail
                      refine HBE.out.mono ?_
                      rintro e w5 ⟨rfl, hb5⟩
                      have HB5 := Aside0.mk (below_then HB4.out HB4.out.size hb5)
                      clear hb5
                      go_wp2_with fail
                      go_roundw
                      case rel => exact ⟨a + 1, haM, rfl, by go_num, HN2, HB5⟩
                      case measure => simp [intOf]; omega
                    · have hfit := HFA.out.2 ⟨hv, of_decide_eq_true hb⟩
                      have HNS := Aside0.mk (HS.out.step HW.out hd1000 HT.out.2 (by rw [HMM.out]; exact haM) hfit HNo.out)
                      clear hfit
                      have hbe := HNab.out
                      rw [hb] at hbe
                      have HBE := Aside0.mk hbe
                      clear hbe hb hv
                      go_wp2_with fail
                      refine HBE.out.mono ?_
                      rintro e w5 ⟨rfl, hb5⟩
                      have HB5 := Aside0.mk (below_then HB4.out HB4.out.size hb5)
                      clear hb5
                      have HB5w := Aside0.mk (below_then HBw.out HBw.out.size HB5.out)
                      have HR5 := Aside0.mk (Kd.R_below HR.out HB5.out)
                      have hGil := ints_length G
                      have hKK := HK.out
                      go_wp2_with (first | ((with_reducible refine gate_builtin (b := .append) (xs := #[.tmp 81, .tmp 83]) rfl ?_); at_builtin; refine Kd.R_append (Kd.int .i64) (w0 := w2) w2.heap.size rfl (.tmp 81) (.tmp 83) 34 3 (.int .i64 0) 8 rfl Tryd.underlying34 info3 rfl (by decide) (by omega) (.slice (some ⟨gA, 0, none⟩) K c) (ints G) (a : Int) [.int .i64 a] (fun _ => True) (fun _ => False) rfl rfl rfl (fun _ hk => hk.elim) (fun _ _ => trivial) HR5.out HB5w.out HB5w.out.size (by omega) ?_; intro v9 w9 ho hb hg hat; have HO9 := Aside0.mk ho; have HB9 := Aside0.mk hb; clear ho hb hg hat))
                      go_roundg (gO - 1)
                      case measure => have := HQ.out; omega
                      case rel => exact ⟨G ++ [a], r - 1, ⟨by have := HQ.out; have := HT.out.2; omega⟩, HNS, ⟨by rw [ints_append]; exact HO9.out⟩, HB9⟩
                  · have q2 : (va == (t : Int)) = false := beq_eq_false_iff_ne.2 hv
                    have HN2 := Aside0.mk (HNX.out (fun h => hv (HFA.out.1 h).1))
                    clear hv
                    go_wp2_with fail
                    go_roundw
                    case rel => exact ⟨a + 1, haM, rfl, by go_num, HN2, HB4⟩
                    case measure => simp [intOf]; omega
                · exfalso
                  obtain ⟨x, hx, hfx⟩ := HEx.out
                  rw [HMM.out] at hx
                  exact HNo.out x (by omega) hfx
      · have q1 : decide (B < 1000) = false := decide_eq_false hlt
        have HNo := Aside0.mk (short_none HW.out (by rw [hBn]; omega))
        obtain rfl : B = 1000 := by omega
        clear hB hbl hBn hlt hB1000 q1
        go_wp2_with fail
        go_loopw [10] (fun v10 w3 => v10 = .slice none 0 0 ∧ Aside0 (Below w2.heap.size w2 w3)) (fun _ _ => 0)
        case atStart => exact ⟨rfl, HBw⟩
        case round =>
          clear HBw HBW
          obtain ⟨rfl, HBw⟩ := hrel
          have HBW := Aside0.mk (below_then HB2.out HB2.out.size HBw.out)
          go_wp2_with fail
          go_ret
          refine ⟨_, rfl, ?_, HBW.out⟩
          rw [HNo.out]
          exact Kd.R_nil _ _ _ _ _
end Go.Proofs.YtlmgkmmdaecpdaaDoor.Im

namespace Go.Proofs.YtlmgkmmdaecpdaaDoor.Im
open Go.RowKit Go.Proofs.YtlmgkmmdaecpdaaDoorW.PrintWords Go.Proofs.YtlmgkmmdaecpdaaDoorW.PrintLast Go.Proofs.YtlmgkmmdaecpdaaDoorW.PrintMore Go.Proofs.YtlmgkmmdaecpdaaDoor.Mi
set_option linter.unusedVariables false
set_option linter.unusedSimpArgs false
theorem min2_le (k k' : IntKind) (x y : Int) (h : x ≤ y) : Builtin.min2 (.int k x) (.int k' y) = pure (.int k x) := by
  rw [min2_int, if_neg (by omega)]
theorem max2_le (k k' : IntKind) (x y : Int) (h : x ≤ y) : Builtin.max2 (.int k x) (.int k' y) = pure (.int k y) := by
  rw [max2_int]
  split
  · rfl
  · rw [show x = y by omega]
attribute [local go_sem] max2_le min2_le max_two min_two
end Go.Proofs.YtlmgkmmdaecpdaaDoor.Im

namespace Go.Proofs.YtlmgkmmdaecpdaaDoor.Im
open Go.RowKit Go.Proofs.YtlmgkmmdaecpdaaDoorW.PrintWords Go.Proofs.YtlmgkmmdaecpdaaDoorW.PrintLast Go.Proofs.YtlmgkmmdaecpdaaDoorW.PrintMore Go.Proofs.YtlmgkmmdaecpdaaDoor.Mi
set_option linter.unusedVariables false
set_option linter.unusedSimpArgs false
theorem byte_of {s : ByteArray} {y : Nat} (h : y < s.size) : ((s[y]'h).toNat : Int) = (bsOf s).getD y 0 := by
  rw [← bt_bs]
  exact bt_at s (y : Int) (by rw [Int.toNat_natCast]; exact h)
theorem idx_at {s : ByteArray} {y : Nat} (h : y < s.size) {v : Int} (hv : ((s[y]'h).toNat : Int) = v) (w : World) : (Instr.index 9 (.string s) (.int .i64 (y : Int))).run Tryd.prog w = .ok (.int .u8 v) w := by
  have k := run_index_string (P := Tryd.prog) (w := w) 9 s .i64 (y : Int) Tryd.underlying9
  rw [dif_pos ⟨by omega, by omega⟩] at k
  rw [k, ← hv]
  simp only [Int.toNat_natCast]
end Go.Proofs.YtlmgkmmdaecpdaaDoor.Im

