/- Further parts of the same walk: contracts of the functions that the law reaches, each under the conditions that it states. -/
import Derived.Test.YtlmgkmmdaecpdaaDoorC11I
import Derived.Carry
namespace Go.Proofs.YtlmgkmmdaecpdaaDoor.Im
open Go.RowKit Go.Proofs.YtlmgkmmdaecpdaaDoorW.PrintWords Go.Proofs.YtlmgkmmdaecpdaaDoorW.PrintLast Go.Proofs.YtlmgkmmdaecpdaaDoorW.PrintMore Go.Proofs.YtlmgkmmdaecpdaaDoor.Mi
set_option linter.unusedVariables false
set_option linter.unusedSimpArgs false
def b012 : ByteArray := ⟨#[48, 49, 50]⟩
set_option maxHeartbeats 6400000 in
set_option maxRecDepth 100000 in
theorem of_bad (n : Int) (s : ByteArray) (w : World) (hs : s.size ≤ 9223372036854775807) (hE : triE n s ≠ 0) :
    Calls Tryd.prog 53 #[.int .i64 n, .string s] w (OfPost n s w) := by
  have HT := Aside0.mk (fun w1 => trim_any s w1 b012 hs (by decide) (by decide))
  unfold b012 at HT
  by_cases h1 : n < 1
  · have hE2 : triE n s = 2 := by unfold triE; rw [if_pos (.inl h1)]
    have HP : Aside0 (∀ w', Below w.heap.size w w' → OfPost n s w (.returned (.tuple #[.pointer none, .int .i64 2])) w') := ⟨fun w' hb => ⟨hb, by rw [hE2, if_neg (by omega)]⟩⟩
    clear hE hE2 HT
    go_enter Tryd.func53, Tryd.ntmps53
    go_wp2_with fail
    go_ret2
    exact HP.out _ (Below.refl _ _)
  · by_cases h2 : 20 < n
    · have hE2 : triE n s = 2 := by unfold triE; rw [if_pos (.inr h2)]
      have HP : Aside0 (∀ w', Below w.heap.size w w' → OfPost n s w (.returned (.tuple #[.pointer none, .int .i64 2])) w') := ⟨fun w' hb => ⟨hb, by rw [hE2, if_neg (by omega)]⟩⟩
      clear hE hE2 HT
      go_enter Tryd.func53, Tryd.ntmps53
      go_wp2_with fail
      go_ret2
      exact HP.out _ (Below.refl _ _)
    · obtain ⟨m, rfl⟩ : ∃ m : Nat, n = m := ⟨n.toNat, by omega⟩
      obtain ⟨K, hK⟩ : ∃ K, offT m (m + 1) = K := ⟨_, rfl⟩
      have hE2 : triE m s = 5 := by
        unfold triE at hE ⊢
        rw [if_neg (by omega)] at hE ⊢
        split at hE
        · exact absurd rfl hE
        · rename_i hx; rw [if_neg hx]
      have HP : Aside0 (∀ w', Below w.heap.size w w' → OfPost m s w (.returned (.tuple #[.pointer none, .int .i64 5])) w') := ⟨fun w' hb => ⟨hb, by rw [hE2, if_neg (by omega)]⟩⟩
      have hq0 : ((m : Int) + 1) * ((m : Int) + 2) = (((m + 1) * (m + 2) : Nat) : Int) := by push_cast; rfl
      have hmm : (m + 1) * (m + 2) ≤ 462 := Nat.mul_le_mul (show m + 1 ≤ 21 by omega) (show m + 2 ≤ 22 by omega)
      have hq : Int.tdiv (((m : Int) + 1) * ((m : Int) + 2)) 2 = (K : Int) := by
        rw [hq0, ← hK, offT_val m (by omega)]
        rfl
      have hw1 : wrap64 (((m : Int) + 1) * ((m : Int) + 2)) = ((m : Int) + 1) * ((m : Int) + 2) := by rw [hq0]; unfold wrap64; omega
      have hwK : wrap64 (K : Int) = (K : Int) := by have := offT_le (n := m) (by omega); unfold wrap64; omega
      by_cases h3 : s.size = K
      · have h3' : ((s.size : Int) == (K : Int)) = true := beq_iff_eq.2 (by omega)
        have h3'' : ((s.size : Int) != (K : Int)) = false := by rw [bne, h3']; rfl
        have hem : (⟨(Lib.trimS s.data.toList b012.data.toList).toArray⟩ : ByteArray).toList.isEmpty = false := by
          rw [ByteArray.toList_mk, Bool.eq_false_iff]
          intro h
          rw [List.isEmpty_iff, trim_nil] at h
          refine hE ?_
          unfold triE
          rw [if_neg (by omega), if_pos ⟨by rw [Int.toNat_natCast, hK]; exact h3, h⟩]
        unfold b012 at hem
        generalize (⟨(Lib.trimS s.data.toList (⟨#[48, 49, 50]⟩ : ByteArray).data.toList).toArray⟩ : ByteArray) = r at *
        clear hE hE2 hq0 hmm hK
        go_enter Tryd.func53, Tryd.ntmps53
        go_wp2_with fail
        refine (HT.out _).mono ?_
        rintro e w2 ⟨rfl, hb2⟩
        have HB := Aside0.mk hb2
        clear hb2
        go_wp2_with fail
        go_ret2
        exact HP.out _ HB.out
      · have h3' : ((s.size : Int) == (K : Int)) = false := beq_eq_false_iff_ne.2 (by omega)
        have h3'' : ((s.size : Int) != (K : Int)) = true := by rw [bne, h3']; rfl
        clear hE hE2 HT hq0 hmm hK
        go_enter Tryd.func53, Tryd.ntmps53
        go_wp2_with fail
        go_ret2
        exact HP.out _ (Below.refl _ _)
end Go.Proofs.YtlmgkmmdaecpdaaDoor.Im

namespace Go.Proofs.YtlmgkmmdaecpdaaDoor.Im
open Go.RowKit Go.Proofs.YtlmgkmmdaecpdaaDoorW.PrintWords Go.Proofs.YtlmgkmmdaecpdaaDoorW.PrintLast Go.Proofs.YtlmgkmmdaecpdaaDoorW.PrintMore Go.Proofs.YtlmgkmmdaecpdaaDoor.Mi
set_option linter.unusedVariables false
set_option linter.unusedSimpArgs false
structure OfI (n g mb r c : Nat) (l : List UInt8) (W0 : World) (D : DataW Unit) (wr : World) : Prop where
  keep : Keep (fun x => x ≠ mb) W0 wr
  own : wr.ownsMap Tryd.prog 95 (plainElem Tryd.prog 5) mb (offT n r + c) D
  all : TriI n l r c D
theorem OfI.step {n g mb r c : Nat} {l : List UInt8} {W0 wr w2 : World} {D : DataW Unit} (h : OfI n g mb r c l W0 D wr) (hn : n ≤ 20) (hr : r + c ≤ n)
    (ho : w2.ownsMap Tryd.prog 95 (plainElem Tryd.prog 5) mb (offT n r + c + 1) (D.put (kP r c) (.lit (.int .u8 (colT n l r c))))) (hg : wr.drew.grownBy w2 (some mb)) : OfI n g mb r (c + 1) l W0 (D.put (kP r c) (.lit (.int .u8 (colT n l r c)))) w2 :=
  ⟨(h.keep.trans (Keep.of_below (below_drew (Below.refl _ _)))).trans (Keep.of_grown hg (fun h => h rfl)), ho, h.all.put hn hr⟩
theorem OfI.row {n g mb r c : Nat} {l : List UInt8} {W0 wr : World} {D : DataW Unit} (h : OfI n g mb r c l W0 D wr) (hr : r ≤ n) (hc : c = n + 1 - r) : OfI n g mb (r + 1) 0 l W0 D wr :=
  ⟨h.keep, by rw [hc] at h; exact h.own, h.all.row (by omega)⟩
set_option maxHeartbeats 6400000 in
set_option maxRecDepth 100000 in
theorem of_good (n : Int) (s : ByteArray) (w : World) (hs : s.size ≤ 9223372036854775807) (hE : triE n s = 0) :
    Calls Tryd.prog 53 #[.int .i64 n, .string s] w (OfPost n s w) := by
  have HT := Aside0.mk (fun w1 => trim_any s w1 b012 hs (by decide) (by decide))
  have hok : 1 ≤ n ∧ n ≤ 20 ∧ s.size = offT n.toNat (n.toNat + 1) ∧ s.data.toList.all ([48, 49, 50].contains ·) = true := by
    unfold triE at hE
    split at hE
    · cases hE
    · split at hE
      · rename_i h1 h2; exact ⟨by omega, by omega, h2⟩
      · cases hE
  obtain ⟨h1, h2, h3, h4⟩ := hok
  obtain ⟨m, rfl⟩ : ∃ m : Nat, n = m := ⟨n.toNat, by omega⟩
  rw [Int.toNat_natCast] at h3
  have hem : (⟨(Lib.trimS s.data.toList b012.data.toList).toArray⟩ : ByteArray).toList.isEmpty = true := by
    rw [ByteArray.toList_mk, List.isEmpty_iff, trim_nil]
    exact h4
  unfold b012 at HT hem
  generalize (⟨(Lib.trimS s.data.toList (⟨#[48, 49, 50]⟩ : ByteArray).data.toList).toArray⟩ : ByteArray) = r at *
  have HE := Aside0.mk hE
  have HL : Aside0 (s.data.toList.length = offT m (m + 1)) := ⟨by rw [Array.length_toList]; exact h3⟩
  have HO : Aside0 (∀ b ∈ s.data.toList, b = 48 ∨ b = 49 ∨ b = 50) := ⟨fun b hb => by
    have := List.all_eq_true.1 h4 b hb
    simpa using this⟩
  obtain ⟨K, hK⟩ : ∃ K, offT m (m + 1) = K := ⟨_, rfl⟩
  have hq0 : ((m : Int) + 1) * ((m : Int) + 2) = (((m + 1) * (m + 2) : Nat) : Int) := by push_cast; rfl
  have hmm : (m + 1) * (m + 2) ≤ 462 := Nat.mul_le_mul (show m + 1 ≤ 21 by omega) (show m + 2 ≤ 22 by omega)
  have hq : Int.tdiv (((m : Int) + 1) * ((m : Int) + 2)) 2 = (K : Int) := by
    rw [hq0, ← hK, offT_val m (by omega)]
    rfl
  have hw1 : wrap64 (((m : Int) + 1) * ((m : Int) + 2)) = ((m : Int) + 1) * ((m : Int) + 2) := by rw [hq0]; unfold wrap64; omega
  have hwK : wrap64 (K : Int) = (K : Int) := by have := offT_le (n := m) (by omega); unfold wrap64; omega
  have h3' : ((s.size : Int) == (K : Int)) = true := beq_iff_eq.2 (by omega)
  have h3'' : ((s.size : Int) != (K : Int)) = false := by rw [bne, h3']; rfl
  have hsK : s.size = K := by omega
  have HK := Aside0.mk hK
  have hmk := @run_makeMap Tryd.prog
  have hval := fun (v : Int) (h : (Lit.int .u8 v).wf = true) => plainElem_int (H := Unit) (P := Tryd.prog) Tryd.underlying5 h
  clear hE h3 h4 hq0 hmm hK
  go_enter Tryd.func53, Tryd.ntmps53
  go_wp2_with fail
  refine (HT.out _).mono ?_
  rintro e w2 ⟨rfl, hb2⟩
  have HB := Aside0.mk hb2
  clear hb2
  go_wp2_with fail
  have hb3 : Below w2.heap.size w2 ((w2.alloc (.map #[] 0)).alloc (.cells #[.int .i64 (m : Nat), .map (some w2.heap.size)] 117)) := below_alloc (below_alloc (Below.refl _ _) _) _
  have HB3 := Aside0.mk (below_then HB.out HB.out.size hb3)
  have HZ := Aside0.mk (show w.heap.size ≤ w2.heap.size from HB.out.size)
  have hown : ((w2.alloc (.map #[] 0)).alloc (.cells #[.int .i64 (m : Nat), .map (some w2.heap.size)] 117)).ownsMap Tryd.prog 95 (plainElem Tryd.prog 5) w2.heap.size 0 (.map [] : DataW Unit) := (World.ownsMap_made w2 _ _ _).alloc _
  have HI0 : Aside0 (OfI m (w2.heap.size + 1) w2.heap.size 0 0 s.data.toList ((w2.alloc (.map #[] 0)).alloc (.cells #[.int .i64 (m : Nat), .map (some w2.heap.size)] 117)) (.map []) ((w2.alloc (.map #[] 0)).alloc (.cells #[.int .i64 (m : Nat), .map (some w2.heap.size)] 117))) := ⟨⟨Keep.refl _ _, hown, TriI.start _ _⟩⟩
  have HG0 : Aside0 (Blk ((w2.alloc (.map #[] 0)).alloc (.cells #[.int .i64 (m : Nat), .map (some w2.heap.size)] 117)) (w2.heap.size + 1) 117 #[.int .i64 (m : Nat), .map (some w2.heap.size)]) := ⟨Blk.new' (by simp)⟩
  obtain ⟨gm, hgm⟩ : ∃ gm, w2.heap.size = gm := ⟨_, rfl⟩
  rw [hgm] at HB3 HI0 HG0 HZ ⊢
  have HSK := Aside0.mk hsK
  clear hb3 hown hmk hem HB HT hsK h3' h3'' hq hw1 hwK
  generalize (w2.alloc (.map #[] 0)).alloc (.cells #[.int .i64 (m : Nat), .map (some gm)] 117) = W0 at *
  go_loopw [7, 38] (fun v7 v38 wr => ∃ (i : Nat) (D : DataW Unit), i ≤ m + 1 ∧ v38 = .int .i64 (i : Int) ∧ v7 = .int .i64 (offT m i : Nat) ∧ Aside0 (OfI m (gm + 1) gm i 0 s.data.toList W0 D wr)) (fun _ v _ => m + 1 - (intOf v).toNat)
  case atStart => exact ⟨0, _, Nat.zero_le _, rfl, rfl, HI0⟩
  case round =>
    clear HI0
    obtain ⟨i, D, hi, rfl, rfl, HI⟩ := hrel
    by_cases him : i < m + 1
    · have hom := offT_lt (n := m) (i := i) (j := 0) (by omega)
      have hol := offT_le (n := m) (by omega)
      have hdi : decide ((i : Int) < (m : Int) + 1) = true := decide_eq_true (by omega)
      go_wp2_with fail
      have hI1 : Aside0 (∃ D1 : DataW Unit, OfI m (gm + 1) gm i 0 s.data.toList W0 D1 wr) := ⟨⟨D, HI.out⟩⟩
      clear HI
      go_loopw [7, 45] (fun v7 v45 wr => ∃ (j : Nat) (D1 : DataW Unit), j ≤ m + 1 - i ∧ v45 = .int .i64 (j : Int) ∧ v7 = .int .i64 (offT m i + j : Nat) ∧ Aside0 (OfI m (gm + 1) gm i j s.data.toList W0 D1 wr)) (fun _ v _ => m + 1 - i - (intOf v).toNat)
      case atStart => obtain ⟨D1, h1⟩ := hI1.out; exact ⟨0, D1, Nat.zero_le _, rfl, rfl, ⟨h1⟩⟩
      case round =>
        clear hI1
        obtain ⟨j, D1, hj, rfl, rfl, HJ⟩ := hrel
        by_cases hjm : j < m + 1 - i
        · have hlt := offT_lt (n := m) (i := i) (j := j) (by omega)
          have hks : offT m i + j < s.size := by rw [HSK.out, ← HK.out]; exact hlt
          have k0 : (0 : Int) ≤ ((offT m i + j : Nat) : Int) := Int.natCast_nonneg _
          have k1 : ((offT m i + j : Nat) : Int) < (s.size : Int) := Int.ofNat_lt.2 hks
          have hcol : ((s[offT m i + j]'hks).toNat : Int) = colT m s.data.toList i j := by
            unfold colT
            have : s.data.toList.getD (offT m i + j) 0 = s[offT m i + j]'hks := by
              rw [List.getD_eq_getElem?_getD, Array.getElem?_toList, Array.getElem?_eq_getElem (show offT m i + j < s.data.size from hks)]
              rfl
            rw [this]
          have hgk := (HJ.out.keep.blk HG0.out (Nat.succ_ne_self gm))
          have y1 : wr.cell? ⟨gm + 1, 1, none⟩ = some (.map (some gm)) := hgk.cell 1
          have y1d : wr.drew.cell? ⟨gm + 1, 1, none⟩ = some (.map (some gm)) := y1
          have hown : wr.drew.ownsMap Tryd.prog 95 (plainElem Tryd.prog 5) gm (offT m i + j) D1 := HJ.out.own.drew
          have hlm : offT m i + j < maxLen := by
            have : maxLen = 9223372036854775807 := rfl
            have := offT_le (n := m) (by omega)
            omega
          have hkey := key_P (i := i) (j := j) (by omega) (by omega)
          have hv1 := hval ((s[offT m i + j]'hks).toNat : Int) (by
            have := (s[offT m i + j]'hks).toNat_lt
            simp [Lit.wf]
            constructor
            · exact Int.natCast_nonneg _
            · show _ ≤ (255 : Int)
              omega)
          have hv2 := hv1
          rw [hcol] at hv2
          have him2 : i ≤ 20 := by omega
          have hij : i + j ≤ m := by omega
          have HIJ := Aside0.mk hij
          have HM20 : Aside0 (m ≤ 20) := ⟨by omega⟩
          have HCOL := Aside0.mk hcol
          have hk1 : offT m i + j + 1 = offT m i + (j + 1) := rfl
          have hkl : offT m i + j ≤ 300 := by
            have := offT_le (n := m) (by omega)
            omega
          generalize hKK : offT m i + j = kk at *
          have hix : ∀ w : World, (Instr.index 9 (.string s) (.int .i64 (kk : Int))).run Tryd.prog w = .ok (.int .u8 ((s[kk]'hks).toNat : Int)) w := fun w => by
            have h := run_index_string (P := Tryd.prog) (w := w) 9 s .i64 (kk : Int) Tryd.underlying9
            rw [dif_pos (And.intro k0 k1)] at h
            exact h
          clear hgk hv2 hcol
          go_upto_region 13 with fail
          go_still_tail 10, (by kernel_rfl)
          go_wp2_with (at_mapUpdate; refine wpList_mapUpdate_own _ rfl _ _ _ 115 rfl 95 5 lawP Tryd.underlying115 _ gm kk D1 rfl hown hlm _ _ (kP i j) rfl rfl hkey (.lit (.int .u8 ((s[kk]'hks).toNat : Int))) [] hv1 ?_; intro w3 hown3 hg3; have HW3 := Aside0.mk hown3; have HG3 := Aside0.mk hg3; clear hown3 hg3)
          go_roundw
          case rel =>
            refine ⟨j + 1, D1.put (kP i j) (.lit (.int .u8 (colT m s.data.toList i j))), by omega, by go_num, by rw [← hk1]; go_num, ⟨?_⟩⟩
            rw [HCOL.out] at HW3
            have h3 := HW3.out
            rw [← hKK] at h3
            exact HJ.out.step HM20.out HIJ.out h3 HG3.out
          case measure => simp [intOf]; omega
        · obtain hjE : j = m + 1 - i := by omega
          have hoff : offT m i + j = offT m (i + 1) := by rw [hjE]; rfl
          rw [hoff]
          go_wp2_with fail
          go_roundw
          case rel => exact ⟨i + 1, D1, him, by go_num, rfl, ⟨HJ.out.row (by omega) hjE⟩⟩
          case measure => simp [intOf]; omega
    · obtain rfl : i = m + 1 := by omega
      go_wp2_with fail
      go_ret2
      have hkp : Keep (fun x => x ≠ gm) W0 wr := HI.out.keep
      refine ⟨HB3.out.trans (hkp.below (B := w.heap.size) HB3.out.size (fun x hx => by have := HZ.out; omega)), ?_⟩
      · rw [if_pos HE.out]
        exact ⟨gm + 1, gm, _, D, rfl, ⟨hkp.blk HG0.out (Nat.succ_ne_self gm), HI.out.own, HI.out.all, by omega, by omega, HL.out, HO.out⟩, by have := HZ.out; omega, HZ.out⟩
theorem of_any (n : Int) (s : ByteArray) (w : World) (hs : s.size ≤ 9223372036854775807) : Calls Tryd.prog 53 #[.int .i64 n, .string s] w (OfPost n s w) := by
  by_cases hE : triE n s = 0
  · exact of_good n s w hs hE
  · exact of_bad n s w hs hE
end Go.Proofs.YtlmgkmmdaecpdaaDoor.Im

namespace Go.Proofs.YtlmgkmmdaecpdaaDoor.Im
open Go.RowKit Go.Proofs.YtlmgkmmdaecpdaaDoorW.PrintWords Go.Proofs.YtlmgkmmdaecpdaaDoorW.PrintLast Go.Proofs.YtlmgkmmdaecpdaaDoorW.PrintMore Go.Proofs.YtlmgkmmdaecpdaaDoor.Mi
set_option linter.unusedVariables false
set_option linter.unusedSimpArgs false
theorem below_setg {g : Nat} {w w' : World} {i : Nat} (h : Below g w w') (v : Int) : Below g w (w'.setCell ⟨g + 1, i, none⟩ (.int .i64 v)) := h.setCell (Nat.le_succ g) _
set_option maxHeartbeats 6400000 in
set_option maxRecDepth 100000 in
theorem points_0 (i j : Nat) (w : World) (hi : i ≤ 20) (hj : j ≤ 20) :
    Calls Tryd.prog 83 #[.agg #[.int .i64 0, .int .i64 (i : Nat), .int .i64 (j : Nat)]] w fun e w' => e = .returned (.agg #[.int .i64 (i : Nat), .int .i64 (j : Nat), .int .i64 ((i : Int) + 1), .int .i64 (j : Nat), .int .i64 (i : Nat), .int .i64 ((j : Int) + 1)]) ∧ Below w.heap.size w w' := by
  go_enter Tryd.func83, Tryd.ntmps83
  go_wp2_with fail
  obtain ⟨g, hg⟩ : ∃ g, w.heap.size = g := ⟨_, rfl⟩
  have h1 : Blk ((w.alloc (.cells #[.int .i64 0, .int .i64 (i : Nat), .int .i64 (j : Nat)] 81)).alloc (.cells #[.int .i64 0, .int .i64 0, .int .i64 0, .int .i64 0, .int .i64 0, .int .i64 0] 118)) g 81 #[.int .i64 0, .int .i64 (i : Nat), .int .i64 (j : Nat)] := by rw [← hg]; exact (Blk.new w _ _).alloc _
  have h2 : Blk ((w.alloc (.cells #[.int .i64 0, .int .i64 (i : Nat), .int .i64 (j : Nat)] 81)).alloc (.cells #[.int .i64 0, .int .i64 0, .int .i64 0, .int .i64 0, .int .i64 0, .int .i64 0] 118)) (g + 1) 118 #[.int .i64 0, .int .i64 0, .int .i64 0, .int .i64 0, .int .i64 0, .int .i64 0] := by rw [← hg]; exact Blk.new' (by simp)
  have hb : Below w.heap.size w ((w.alloc (.cells #[.int .i64 0, .int .i64 (i : Nat), .int .i64 (j : Nat)] 81)).alloc (.cells #[.int .i64 0, .int .i64 0, .int .i64 0, .int .i64 0, .int .i64 0, .int .i64 0] 118)) := below_alloc (below_alloc (Below.refl _ _) _) _
  have H1 := Aside0.mk h1
  have H2 := Aside0.mk h2
  have HB := Aside0.mk hb
  rw [hg] at HB ⊢
  clear h1 h2 hb
  generalize (w.alloc (.cells #[.int .i64 0, .int .i64 (i : Nat), .int .i64 (j : Nat)] 81)).alloc (.cells #[.int .i64 0, .int .i64 0, .int .i64 0, .int .i64 0, .int .i64 0, .int .i64 0] 118) = W at *
  have c0 : W.cell? ⟨g, 0, none⟩ = some (.int .i64 0) := H1.out.cell 0
  have c1 : W.cell? ⟨g, 1, none⟩ = some (.int .i64 (i : Nat)) := H1.out.cell 1
  have c2 : W.cell? ⟨g, 2, none⟩ = some (.int .i64 (j : Nat)) := H1.out.cell 2
  go_quiet (fail)
  have f2 := fun (i : Nat) => (H2.out.drewN nq).frozen i
  have o0 : (W.drewN nq).cell? ⟨g + 1, 0, none⟩ = some (.int .i64 0) := (H2.out.drewN nq).cell 0
  have o1 : (W.drewN nq).cell? ⟨g + 1, 1, none⟩ = some (.int .i64 0) := (H2.out.drewN nq).cell 1
  have o2 : (W.drewN nq).cell? ⟨g + 1, 2, none⟩ = some (.int .i64 0) := (H2.out.drewN nq).cell 2
  have o3 : (W.drewN nq).cell? ⟨g + 1, 3, none⟩ = some (.int .i64 0) := (H2.out.drewN nq).cell 3
  have o4 : (W.drewN nq).cell? ⟨g + 1, 4, none⟩ = some (.int .i64 0) := (H2.out.drewN nq).cell 4
  have o5 : (W.drewN nq).cell? ⟨g + 1, 5, none⟩ = some (.int .i64 0) := (H2.out.drewN nq).cell 5
  go_wp2_with fail
  have hB := (((((((H2.out.drewN nq).set_ 0 (.int .i64 (i : Nat))).set_ 1 (.int .i64 (j : Nat))).set_ 2 (.int .i64 ((i : Int) + 1))).set_ 3 (.int .i64 (j : Nat))).set_ 4 (.int .i64 (i : Nat))).set_ 5 (.int .i64 ((j : Int) + 1)))
  have hBB := HB.out
  refine bodyPost_ret (results_cell_row rfl _ _ (g + 1) 118 #[.int .i64 (i : Nat), .int .i64 (j : Nat), .int .i64 ((i : Int) + 1), .int .i64 (j : Nat), .int .i64 (i : Nat), .int .i64 ((j : Int) + 1)] (0, 0) _ rfl hB Tryd.underlying118 rfl (by kernel_rfl)) rfl ?_
  refine ⟨rfl, ?_⟩
  rw [hg]
  exact below_setg (below_setg (below_setg (below_setg (below_setg (below_setg (pw_below_drewN hBB nq) _) _) _) _) _) _
set_option maxHeartbeats 6400000 in
set_option maxRecDepth 100000 in
theorem points_1 (i j : Nat) (w : World) (hi : i ≤ 20) (hj : j ≤ 20) :
    Calls Tryd.prog 83 #[.agg #[.int .i64 1, .int .i64 (i : Nat), .int .i64 (j : Nat)]] w fun e w' => e = .returned (.agg #[.int .i64 ((i : Int) + 1), .int .i64 (j : Nat), .int .i64 (i : Nat), .int .i64 ((j : Int) + 1), .int .i64 ((i : Int) + 1), .int .i64 ((j : Int) + 1)]) ∧ Below w.heap.size w w' := by
  go_enter Tryd.func83, Tryd.ntmps83
  go_wp2_with fail
  obtain ⟨g, hg⟩ : ∃ g, w.heap.size = g := ⟨_, rfl⟩
  have h1 : Blk ((w.alloc (.cells #[.int .i64 1, .int .i64 (i : Nat), .int .i64 (j : Nat)] 81)).alloc (.cells #[.int .i64 0, .int .i64 0, .int .i64 0, .int .i64 0, .int .i64 0, .int .i64 0] 118)) g 81 #[.int .i64 1, .int .i64 (i : Nat), .int .i64 (j : Nat)] := by rw [← hg]; exact (Blk.new w _ _).alloc _
  have h2 : Blk ((w.alloc (.cells #[.int .i64 1, .int .i64 (i : Nat), .int .i64 (j : Nat)] 81)).alloc (.cells #[.int .i64 0, .int .i64 0, .int .i64 0, .int .i64 0, .int .i64 0, .int .i64 0] 118)) (g + 1) 118 #[.int .i64 0, .int .i64 0, .int .i64 0, .int .i64 0, .int .i64 0, .int .i64 0] := by rw [← hg]; exact Blk.new' (by simp)
  have hb : Below w.heap.size w ((w.alloc (.cells #[.int .i64 1, .int .i64 (i : Nat), .int .i64 (j : Nat)] 81)).alloc (.cells #[.int .i64 0, .int .i64 0, .int .i64 0, .int .i64 0, .int .i64 0, .int .i64 0] 118)) := below_alloc (below_alloc (Below.refl _ _) _) _
  have H1 := Aside0.mk h1
  have H2 := Aside0.mk h2
  have HB := Aside0.mk hb
  rw [hg] at HB ⊢
  clear h1 h2 hb
  generalize (w.alloc (.cells #[.int .i64 1, .int .i64 (i : Nat), .int .i64 (j : Nat)] 81)).alloc (.cells #[.int .i64 0, .int .i64 0, .int .i64 0, .int .i64 0, .int .i64 0, .int .i64 0] 118) = W at *
  have c0 : W.cell? ⟨g, 0, none⟩ = some (.int .i64 1) := H1.out.cell 0
  have c1 : W.cell? ⟨g, 1, none⟩ = some (.int .i64 (i : Nat)) := H1.out.cell 1
  have c2 : W.cell? ⟨g, 2, none⟩ = some (.int .i64 (j : Nat)) := H1.out.cell 2
  go_quiet (fail)
  have f2 := fun (i : Nat) => (H2.out.drewN nq).frozen i
  have o0 : (W.drewN nq).cell? ⟨g + 1, 0, none⟩ = some (.int .i64 0) := (H2.out.drewN nq).cell 0
  have o1 : (W.drewN nq).cell? ⟨g + 1, 1, none⟩ = some (.int .i64 0) := (H2.out.drewN nq).cell 1
  have o2 : (W.drewN nq).cell? ⟨g + 1, 2, none⟩ = some (.int .i64 0) := (H2.out.drewN nq).cell 2
  have o3 : (W.drewN nq).cell? ⟨g + 1, 3, none⟩ = some (.int .i64 0) := (H2.out.drewN nq).cell 3
  have o4 : (W.drewN nq).cell? ⟨g + 1, 4, none⟩ = some (.int .i64 0) := (H2.out.drewN nq).cell 4
  have o5 : (W.drewN nq).cell? ⟨g + 1, 5, none⟩ = some (.int .i64 0) := (H2.out.drewN nq).cell 5
  go_wp2_with fail
  have hB := (((((((H2.out.drewN nq).set_ 0 (.int .i64 ((i : Int) + 1))).set_ 1 (.int .i64 (j : Nat))).set_ 2 (.int .i64 (i : Nat))).set_ 3 (.int .i64 ((j : Int) + 1))).set_ 4 (.int .i64 ((i : Int) + 1))).set_ 5 (.int .i64 ((j : Int) + 1)))
  have hBB := HB.out
  refine bodyPost_ret (results_cell_row rfl _ _ (g + 1) 118 #[.int .i64 ((i : Int) + 1), .int .i64 (j : Nat), .int .i64 (i : Nat), .int .i64 ((j : Int) + 1), .int .i64 ((i : Int) + 1), .int .i64 ((j : Int) + 1)] (0, 0) _ rfl hB Tryd.underlying118 rfl (by kernel_rfl)) rfl ?_
  refine ⟨rfl, ?_⟩
  rw [hg]
  exact below_setg (below_setg (below_setg (below_setg (below_setg (below_setg (pw_below_drewN hBB nq) _) _) _) _) _) _
end Go.Proofs.YtlmgkmmdaecpdaaDoor.Im

namespace Go.Proofs.YtlmgkmmdaecpdaaDoor.Im
open Go.RowKit Go.Proofs.YtlmgkmmdaecpdaaDoorW.PrintWords Go.Proofs.YtlmgkmmdaecpdaaDoorW.PrintLast Go.Proofs.YtlmgkmmdaecpdaaDoorW.PrintMore Go.Proofs.YtlmgkmmdaecpdaaDoor.Mi
set_option linter.unusedVariables false
set_option linter.unusedSimpArgs false
def colB (n : Nat) (l : List UInt8) (a b : Nat) : UInt8 := l.getD (offT n a + b) 0
theorem zeroU2 (w : World) : (zeroValue 5).run Tryd.prog w = .ok (.int .u8 0) w := by kernel_rfl
theorem tri_look {w : World} {g n mb m : Nat} {l : List UInt8} {D : DataW Unit} (h : Tri w g n mb m l D) {a b : Nat} (hab : a + b ≤ n) :
    (Instr.lookup 115 (.map (some mb)) (.agg #[.int .i64 (a : Nat), .int .i64 (b : Nat)]) false).run Tryd.prog w = .ok (.int .u8 ((colB n l a b).toNat : Int)) w := by
  have h20 := h.n20
  obtain ⟨c, h1, h2, _⟩ := h.own.lookup_int lawP Tryd.underlying115 Tryd.underlying5 (zeroU2 w) (key_P (i := a) (j := b) (by omega) (by omega))
  have h3 := h.all.at_ a b hab (.inl (by omega)) (.lit (.int .u8 0))
  rw [h3] at h2
  cases h2
  exact h1
theorem conv3 (w : World) (t : TypeId) (a b c : UInt8) (cap : Nat) : (convert 60 9 (.slice (some ⟨w.heap.size, 0, none⟩) 3 cap)).run Tryd.prog (w.alloc (.cells #[.int .u8 (a.toNat : Int), .int .u8 (b.toNat : Int), .int .u8 (c.toNat : Int)] t)).drew = .ok (.string ⟨#[a, b, c]⟩) (w.alloc (.cells #[.int .u8 (a.toNat : Int), .int .u8 (b.toNat : Int), .int .u8 (c.toNat : Int)] t)).drew := by
  have hb : Lib.Bytes (w.alloc (.cells #[.int .u8 (a.toNat : Int), .int .u8 (b.toNat : Int), .int .u8 (c.toNat : Int)] t)).drew w.heap.size 0 ⟨#[a, b, c]⟩ := by
    intro i hi
    have hi3 : i < 3 := hi
    rw [Nat.zero_add, (Blk.new w t _).drew.cell]
    match i, hi3 with
    | 0, _ => rfl
    | 1, _ => rfl
    | 2, _ => rfl
  exact Lib.run_convert_whole (P := Tryd.prog) _ 60 5 9 Tryd.underlying60 Tryd.underlying5 Tryd.underlying9 w.heap.size 0 _ hb cap
set_option maxHeartbeats 6400000 in
set_option maxRecDepth 100000 in
theorem text_0 (g n mb m : Nat) (l : List UInt8) (D : DataW Unit) (i j : Nat) (w : World) (ht : Tri w g n mb m l D) (hij : i + j + 1 ≤ n) :
    Calls Tryd.prog 64 #[.pointer (some ⟨g, 0, none⟩), .agg #[.int .i64 0, .int .i64 (i : Nat), .int .i64 (j : Nat)]] w fun e w' => e = .returned (.string ⟨#[colB n l (i) (j), colB n l (i + 1) (j), colB n l (i) (j + 1)]⟩) ∧ Below w.heap.size w w' := by
  have HT := Aside0.mk ht
  have h20 := ht.n20
  have HP := Aside0.mk (fun w => points_0 i j w (by omega) (by omega))
  have HIJ := Aside0.mk hij
  clear ht hij h20
  go_enter Tryd.func64, Tryd.ntmps64
  go_wp2_with fail
  refine (HP.out _).mono ?_
  rintro e w1 ⟨rfl, hb1⟩
  have hb0 : Below w.heap.size w w1 := below_then (below_alloc (Below.refl _ _) _) (by simp) hb1
  have HB := Aside0.mk hb0
  clear hb0 hb1
  go_wp2_with fail
  obtain ⟨gq, hgq⟩ : ∃ gq, w1.heap.size = gq := ⟨_, rfl⟩
  have hb2 : Below w1.heap.size w1 (w1.alloc (.cells #[.int .i64 (i : Nat), .int .i64 (j : Nat), .int .i64 ((i : Int) + 1), .int .i64 (j : Nat), .int .i64 (i : Nat), .int .i64 ((j : Int) + 1)] 118)) := below_alloc (Below.refl _ _) _
  have HQ := Aside0.mk (Blk.new w1 118 #[.int .i64 (i : Nat), .int .i64 (j : Nat), .int .i64 ((i : Int) + 1), .int .i64 (j : Nat), .int .i64 (i : Nat), .int .i64 ((j : Int) + 1)])
  have HB2 := Aside0.mk (below_then HB.out HB.out.size hb2)
  rw [hgq] at HQ ⊢
  clear hb2 HB
  generalize w1.alloc (.cells #[.int .i64 (i : Nat), .int .i64 (j : Nat), .int .i64 ((i : Int) + 1), .int .i64 (j : Nat), .int .i64 (i : Nat), .int .i64 ((j : Int) + 1)] 118) = W at *
  have ht2 := HT.out.later HB2.out
  have ht3 : Tri W.drew g n mb m l D := ht2.later (below_drew (Below.refl _ _))
  have HT3 := Aside0.mk ht3
  have HBd := Aside0.mk (show Below w.heap.size w W.drew from HB2.out.trans (below_drew (Below.refl _ _)))
  have e1 : W.drew.cell? ⟨g, 1, none⟩ = some (.map (some mb)) := ht3.hd.cell 1
  have c0 : W.drew.cell? ⟨gq, 0, none⟩ = some (.int .i64 (i : Nat)) := HQ.out.drew.cell 0
  have c1 : W.drew.cell? ⟨gq, 1, none⟩ = some (.int .i64 (j : Nat)) := HQ.out.drew.cell 1
  have c2 : W.drew.cell? ⟨gq, 2, none⟩ = some (.int .i64 ((i : Int) + 1)) := HQ.out.drew.cell 2
  have c3 : W.drew.cell? ⟨gq, 3, none⟩ = some (.int .i64 (j : Nat)) := HQ.out.drew.cell 3
  have c4 : W.drew.cell? ⟨gq, 4, none⟩ = some (.int .i64 (i : Nat)) := HQ.out.drew.cell 4
  have c5 : W.drew.cell? ⟨gq, 5, none⟩ = some (.int .i64 ((j : Int) + 1)) := HQ.out.drew.cell 5
  have l0 := tri_look ht3 (a := i) (b := j) (by have := HIJ.out; omega)
  have l1 := tri_look ht3 (a := i + 1) (b := j) (by have := HIJ.out; omega)
  have l2 := tri_look ht3 (a := i) (b := j + 1) (by have := HIJ.out; omega)
  push_cast at l0 l1 l2
  clear ht2 ht3
  have hcv := conv3
  obtain ⟨x0, hx0⟩ : ∃ x, colB n l (i) (j) = x := ⟨_, rfl⟩
  rw [hx0] at l0
  have HX0 := Aside0.mk hx0
  clear hx0
  obtain ⟨x1, hx1⟩ : ∃ x, colB n l (i + 1) (j) = x := ⟨_, rfl⟩
  rw [hx1] at l1
  have HX1 := Aside0.mk hx1
  clear hx1
  obtain ⟨x2, hx2⟩ : ∃ x, colB n l (i) (j + 1) = x := ⟨_, rfl⟩
  rw [hx2] at l2
  have HX2 := Aside0.mk hx2
  clear hx2
  go_still_tail 21, (by kernel_rfl)
  go_wp2_with fail
  go_ret
  exact ⟨by rw [HX0.out, HX1.out, HX2.out]; rfl, below_drew (below_alloc HB2.out _)⟩
set_option maxHeartbeats 6400000 in
set_option maxRecDepth 100000 in
theorem text_1 (g n mb m : Nat) (l : List UInt8) (D : DataW Unit) (i j : Nat) (w : World) (ht : Tri w g n mb m l D) (hij : i + j + 2 ≤ n) :
    Calls Tryd.prog 64 #[.pointer (some ⟨g, 0, none⟩), .agg #[.int .i64 1, .int .i64 (i : Nat), .int .i64 (j : Nat)]] w fun e w' => e = .returned (.string ⟨#[colB n l (i + 1) (j), colB n l (i) (j + 1), colB n l (i + 1) (j + 1)]⟩) ∧ Below w.heap.size w w' := by
  have HT := Aside0.mk ht
  have h20 := ht.n20
  have HP := Aside0.mk (fun w => points_1 i j w (by omega) (by omega))
  have HIJ := Aside0.mk hij
  clear ht hij h20
  go_enter Tryd.func64, Tryd.ntmps64
  go_wp2_with fail
  refine (HP.out _).mono ?_
  rintro e w1 ⟨rfl, hb1⟩
  have hb0 : Below w.heap.size w w1 := below_then (below_alloc (Below.refl _ _) _) (by simp) hb1
  have HB := Aside0.mk hb0
  clear hb0 hb1
  go_wp2_with fail
  obtain ⟨gq, hgq⟩ : ∃ gq, w1.heap.size = gq := ⟨_, rfl⟩
  have hb2 : Below w1.heap.size w1 (w1.alloc (.cells #[.int .i64 ((i : Int) + 1), .int .i64 (j : Nat), .int .i64 (i : Nat), .int .i64 ((j : Int) + 1), .int .i64 ((i : Int) + 1), .int .i64 ((j : Int) + 1)] 118)) := below_alloc (Below.refl _ _) _
  have HQ := Aside0.mk (Blk.new w1 118 #[.int .i64 ((i : Int) + 1), .int .i64 (j : Nat), .int .i64 (i : Nat), .int .i64 ((j : Int) + 1), .int .i64 ((i : Int) + 1), .int .i64 ((j : Int) + 1)])
  have HB2 := Aside0.mk (below_then HB.out HB.out.size hb2)
  rw [hgq] at HQ ⊢
  clear hb2 HB
  generalize w1.alloc (.cells #[.int .i64 ((i : Int) + 1), .int .i64 (j : Nat), .int .i64 (i : Nat), .int .i64 ((j : Int) + 1), .int .i64 ((i : Int) + 1), .int .i64 ((j : Int) + 1)] 118) = W at *
  have ht2 := HT.out.later HB2.out
  have ht3 : Tri W.drew g n mb m l D := ht2.later (below_drew (Below.refl _ _))
  have HT3 := Aside0.mk ht3
  have HBd := Aside0.mk (show Below w.heap.size w W.drew from HB2.out.trans (below_drew (Below.refl _ _)))
  have e1 : W.drew.cell? ⟨g, 1, none⟩ = some (.map (some mb)) := ht3.hd.cell 1
  have c0 : W.drew.cell? ⟨gq, 0, none⟩ = some (.int .i64 ((i : Int) + 1)) := HQ.out.drew.cell 0
  have c1 : W.drew.cell? ⟨gq, 1, none⟩ = some (.int .i64 (j : Nat)) := HQ.out.drew.cell 1
  have c2 : W.drew.cell? ⟨gq, 2, none⟩ = some (.int .i64 (i : Nat)) := HQ.out.drew.cell 2
  have c3 : W.drew.cell? ⟨gq, 3, none⟩ = some (.int .i64 ((j : Int) + 1)) := HQ.out.drew.cell 3
  have c4 : W.drew.cell? ⟨gq, 4, none⟩ = some (.int .i64 ((i : Int) + 1)) := HQ.out.drew.cell 4
  have c5 : W.drew.cell? ⟨gq, 5, none⟩ = some (.int .i64 ((j : Int) + 1)) := HQ.out.drew.cell 5
  have l0 := tri_look ht3 (a := i + 1) (b := j) (by have := HIJ.out; omega)
  have l1 := tri_look ht3 (a := i) (b := j + 1) (by have := HIJ.out; omega)
  have l2 := tri_look ht3 (a := i + 1) (b := j + 1) (by have := HIJ.out; omega)
  push_cast at l0 l1 l2
  clear ht2 ht3
  have hcv := conv3
  obtain ⟨x0, hx0⟩ : ∃ x, colB n l (i + 1) (j) = x := ⟨_, rfl⟩
  rw [hx0] at l0
  have HX0 := Aside0.mk hx0
  clear hx0
  obtain ⟨x1, hx1⟩ : ∃ x, colB n l (i) (j + 1) = x := ⟨_, rfl⟩
  rw [hx1] at l1
  have HX1 := Aside0.mk hx1
  clear hx1
  obtain ⟨x2, hx2⟩ : ∃ x, colB n l (i + 1) (j + 1) = x := ⟨_, rfl⟩
  rw [hx2] at l2
  have HX2 := Aside0.mk hx2
  clear hx2
  go_still_tail 21, (by kernel_rfl)
  go_wp2_with fail
  go_ret
  exact ⟨by rw [HX0.out, HX1.out, HX2.out]; rfl, below_drew (below_alloc HB2.out _)⟩
end Go.Proofs.YtlmgkmmdaecpdaaDoor.Im

namespace Go.Proofs.YtlmgkmmdaecpdaaDoor.Im
open Go.RowKit Go.Proofs.YtlmgkmmdaecpdaaDoorW.PrintWords Go.Proofs.YtlmgkmmdaecpdaaDoorW.PrintLast Go.Proofs.YtlmgkmmdaecpdaaDoorW.PrintMore Go.Proofs.YtlmgkmmdaecpdaaDoor.Mi
set_option linter.unusedVariables false
set_option linter.unusedSimpArgs false
def txtB (n : Nat) (l : List UInt8) (k i j : Nat) : ByteArray := if k = 0 then ⟨#[colB n l i j, colB n l (i + 1) j, colB n l i (j + 1)]⟩ else ⟨#[colB n l (i + 1) j, colB n l i (j + 1), colB n l (i + 1) (j + 1)]⟩
theorem text_any (g n mb m : Nat) (l : List UInt8) (D : DataW Unit) (k i j : Nat) (w : World) (ht : Tri w g n mb m l D) (hk : k ≤ 1) (hij : i + j + k + 1 ≤ n) :
    Calls Tryd.prog 64 #[.pointer (some ⟨g, 0, none⟩), .agg #[.int .i64 (k : Nat), .int .i64 (i : Nat), .int .i64 (j : Nat)]] w fun e w' => e = .returned (.string (txtB n l k i j)) ∧ Below w.heap.size w w' := by
  rcases (show k = 0 ∨ k = 1 by omega) with rfl | rfl
  · exact text_0 g n mb m l D i j w ht (by omega)
  · exact text_1 g n mb m l D i j w ht (by omega)
def hasB (s : ByteArray) (c : UInt8) : Bool := decide (0 ≤ Lib.indexByte s.data.toList c)
def fulB (s : ByteArray) : Bool := hasB s 48 && hasB s 49 && hasB s 50
theorem contains_one (s : ByteArray) (c : UInt8) (w : World) : Calls Tryd.prog 63 #[.string s, .string ⟨#[c]⟩] w fun e w' => e = .returned (.bool (hasB s c)) ∧ w' = w := Tryd.strings_Contains_one s c w
set_option maxHeartbeats 6400000 in
set_option maxRecDepth 100000 in
theorem full_any (g n mb m : Nat) (l : List UInt8) (D : DataW Unit) (k i j : Nat) (w : World) (ht : Tri w g n mb m l D) (hk : k ≤ 1) (hij : i + j + k + 1 ≤ n) :
    Calls Tryd.prog 60 #[.pointer (some ⟨g, 0, none⟩), .agg #[.int .i64 (k : Nat), .int .i64 (i : Nat), .int .i64 (j : Nat)]] w fun e w' => e = .returned (.bool (fulB (txtB n l k i j))) ∧ Below w.heap.size w w' := by
  have HT := Aside0.mk (fun w1 (hb : Below w.heap.size w w1) => text_any g n mb m l D k i j w1 (ht.later hb) hk hij)
  have H0 := Aside0.mk (contains_one (txtB n l k i j) 48)
  have H1 := Aside0.mk (contains_one (txtB n l k i j) 49)
  have H2 := Aside0.mk (contains_one (txtB n l k i j) 50)
  unfold fulB
  clear ht hk hij
  generalize txtB n l k i j = s at *
  obtain ⟨b0, e0⟩ : ∃ b, hasB s 48 = b := ⟨_, rfl⟩
  obtain ⟨b1, e1⟩ : ∃ b, hasB s 49 = b := ⟨_, rfl⟩
  obtain ⟨b2, e2⟩ : ∃ b, hasB s 50 = b := ⟨_, rfl⟩
  rw [e0] at H0
  rw [e1] at H1
  rw [e2] at H2
  have E0 := Aside0.mk e0
  have E1 := Aside0.mk e1
  have E2 := Aside0.mk e2
  clear e0 e1 e2
  cases b0
  · go_enter Tryd.func60, Tryd.ntmps60
    go_wp2_with fail
    refine (HT.out _ (below_alloc (Below.refl _ _) _)).mono ?_
    rintro e w1 ⟨rfl, hb1⟩
    have HB := Aside0.mk (below_then (below_alloc (Below.refl _ _) _) (by simp) hb1)
    clear hb1
    go_wp2_with fail
    refine (H0.out _).mono ?_
    rintro e w2 ⟨rfl, rfl⟩
    go_wp2_with fail
    go_ret
    exact ⟨by rw [E0.out, E1.out, E2.out]; simp, HB.out⟩
  · cases b1
    · go_enter Tryd.func60, Tryd.ntmps60
      go_wp2_with fail
      refine (HT.out _ (below_alloc (Below.refl _ _) _)).mono ?_
      rintro e w1 ⟨rfl, hb1⟩
      have HB := Aside0.mk (below_then (below_alloc (Below.refl _ _) _) (by simp) hb1)
      clear hb1
      go_wp2_with fail
      refine (H0.out _).mono ?_
      rintro e w2 ⟨rfl, rfl⟩
      go_wp2_with fail
      refine (H1.out _).mono ?_
      rintro e w2 ⟨rfl, rfl⟩
      go_wp2_with fail
      go_ret
      exact ⟨by rw [E0.out, E1.out, E2.out]; simp, HB.out⟩
    · go_enter Tryd.func60, Tryd.ntmps60
      go_wp2_with fail
      refine (HT.out _ (below_alloc (Below.refl _ _) _)).mono ?_
      rintro e w1 ⟨rfl, hb1⟩
      have HB := Aside0.mk (below_then (below_alloc (Below.refl _ _) _) (by simp) hb1)
      clear hb1
      go_wp2_with fail
      refine (H0.out _).mono ?_
      rintro e w2 ⟨rfl, rfl⟩
      go_wp2_with fail
      refine (H1.out _).mono ?_
      rintro e w2 ⟨rfl, rfl⟩
      go_wp2_with fail
      refine (H2.out _).mono ?_
      rintro e w2 ⟨rfl, rfl⟩
      go_wp2_with fail
      go_ret
      exact ⟨by rw [E0.out, E1.out, E2.out]; simp, HB.out⟩
end Go.Proofs.YtlmgkmmdaecpdaaDoor.Im

namespace Go.Proofs.YtlmgkmmdaecpdaaDoor.Im
open Go.RowKit Go.Proofs.YtlmgkmmdaecpdaaDoorW.PrintWords Go.Proofs.YtlmgkmmdaecpdaaDoorW.PrintLast Go.Proofs.YtlmgkmmdaecpdaaDoorW.PrintMore
attribute [local go_sem] max2_int min2_int max_two min_two max_three min_three max_four min_four
set_option linter.unusedVariables false
set_option linter.unusedSimpArgs false
structure S77 where
  f0 : Int
  f1 : Int
  f2 : Int
def z77 : S77 := ⟨(0 : Int), (0 : Int), (0 : Int)⟩
def k77 : Kd S77 := Kd.iso (Kd.pair (Kd.int .i64) (Kd.pair (Kd.int .i64) (Kd.int .i64))) (fun x : S77 => (x.f0, x.f1, x.f2))
theorem k77_open {w : World} {x : S77} {cs : List Value} (h : k77.K w x cs) : cs = [.int .i64 x.f0, .int .i64 x.f1, .int .i64 x.f2] := by
  obtain ⟨_, _, rfl, rfl, ⟨_, _, rfl, rfl, rfl⟩⟩ := h
  exact rfl
theorem k77_mkM (w : World) (base : Nat) (ok : Nat → Prop) (x : S77)  : k77.M w base ok x [.int .i64 x.f0, .int .i64 x.f1, .int .i64 x.f2] := ⟨[.int .i64 x.f0], [.int .i64 x.f1, .int .i64 x.f2], rfl, rfl, ⟨[.int .i64 x.f1], [.int .i64 x.f2], rfl, rfl, rfl⟩⟩
def rd_T77 (xs : List S77) (i : Int) : S77 := xs.getD i.toNat z77
theorem at_T77 {w : World} {A : Option Addr} {n : Nat} {xs : List S77} (h : Kd.C k77 w A n xs) (i : Int) (h0 : 0 ≤ i) (h1 : i < n) : ∃ ad , A = some ad ∧ w.cell? (ad.add (i.toNat * 3)) = some (.int .i64 (rd_T77 xs i).f0) ∧ w.cell? ⟨(ad.add (i.toNat * 3)).block, (ad.add (i.toNat * 3)).off + 1, none⟩ = some (.int .i64 (rd_T77 xs i).f1) ∧ w.cell? ⟨(ad.add (i.toNat * 3)).block, (ad.add (i.toNat * 3)).off + 2, none⟩ = some (.int .i64 (rd_T77 xs i).f2) := by
  obtain ⟨ad, c, e, _, hK, hc0⟩ := Kd.C_get h z77 i h0 h1
  have hc : ∀ j u, c[j]? = some u → w.cell? (ad.add (i.toNat * 3 + j)) = some u := hc0
  obtain rfl := k77_open hK
  exact ⟨ad, e, hc 0 _ rfl, by rw [← add_field _ _ 1 (by omega)]; exact hc 1 _ rfl, by rw [← add_field _ _ 2 (by omega)]; exact hc 2 _ rfl⟩
def rd_L3 (xs : List (List Int)) (i : Int) : (List Int) := xs.getD i.toNat ([] : List Int)
theorem at_L3 {w : World} {A : Option Addr} {n : Nat} {xs : List (List Int)} (h : Kd.C (Kd.slice 3 (Kd.int .i64)) w A n xs) (i : Int) (h0 : 0 ≤ i) (h1 : i < n) : ∃ ad A0 c0, A = some ad ∧ w.cell? (ad.add i.toNat) = some (.slice A0 (rd_L3 xs i).length c0) ∧ (rd_L3 xs i).length ≤ c0 ∧ (Kd.int .i64).C w A0 (rd_L3 xs i).length (rd_L3 xs i) := by
  obtain ⟨ad, c, e, _, hK, hc0⟩ := Kd.C_get h ([] : List Int) i h0 h1
  have hc : ∀ j u, c[j]? = some u → w.cell? (ad.add (i.toNat * 1 + j)) = some u := hc0
  obtain ⟨A0, c0, rfl, l0, g0⟩ := hK
  exact ⟨ad, A0, c0, e, by have hq := hc 0 _ rfl; rwa [Nat.mul_one, Nat.add_zero] at hq, l0, g0⟩
end Go.Proofs.YtlmgkmmdaecpdaaDoor.Im

namespace Go.Proofs.YtlmgkmmdaecpdaaDoor.Im
open Go.RowKit Go.Proofs.YtlmgkmmdaecpdaaDoorW.PrintWords Go.Proofs.YtlmgkmmdaecpdaaDoorW.PrintLast Go.Proofs.YtlmgkmmdaecpdaaDoorW.PrintMore Go.Proofs.YtlmgkmmdaecpdaaDoor.Mi
set_option linter.unusedVariables false
set_option linter.unusedSimpArgs false
theorem info81' : (Tryd.prog.info? 81).map (fun i => (i.zero, i.size, i.bytes)) = some (some (.agg #[(.int .i64 0), (.int .i64 0), (.int .i64 0)]), 3, 24) := by kernel_rfl
def cel (k i j : Nat) : S77 := ⟨(k : Int), (i : Int), (j : Int)⟩
def celR (k i m : Nat) : List S77 := (List.range m).map (cel k i)
def celI (n k m : Nat) : List S77 := (List.range m).flatMap fun i => celR k i (n - k - i)
def celK (n m : Nat) : List S77 := (List.range m).flatMap fun k => celI n k (n - k)
def cellsL (n : Nat) : List S77 := celK n 2
theorem celR_succ (k i m : Nat) : celR k i (m + 1) = celR k i m ++ [cel k i m] := by unfold celR; rw [List.range_succ, List.map_append]; rfl
theorem celI_succ (n k m : Nat) : celI n k (m + 1) = celI n k m ++ celR k m (n - k - m) := by unfold celI; rw [List.range_succ, List.flatMap_append]; simp
theorem celK_succ (n m : Nat) : celK n (m + 1) = celK n m ++ celI n m (n - m) := by unfold celK; rw [List.range_succ, List.flatMap_append]; simp
theorem celR_len (k i m : Nat) : (celR k i m).length = m := by unfold celR; simp
theorem celI_len {n : Nat} (hn : n ≤ 20) (k : Nat) : ∀ m, (celI n k m).length ≤ m * 20
  | 0 => by simp [celI]
  | m + 1 => by
    rw [celI_succ, List.length_append, celR_len]
    have := celI_len hn k m
    omega
theorem celK_len {n : Nat} (hn : n ≤ 20) : ∀ m, (celK n m).length ≤ m * 400
  | 0 => by simp [celK]
  | m + 1 => by
    rw [celK_succ, List.length_append]
    have := celK_len hn m
    have := celI_len hn m (n - m)
    omega
theorem mem_cells {n : Nat} {x : S77} : x ∈ cellsL n ↔ ∃ k i j : Nat, k ≤ 1 ∧ i + j + k + 1 ≤ n ∧ x = cel k i j := by
  unfold cellsL celK celI celR
  simp only [List.mem_flatMap, List.mem_range, List.mem_map]
  constructor
  · rintro ⟨k, hk, i, hi, j, hj, rfl⟩
    exact ⟨k, i, j, by omega, by omega, rfl⟩
  · rintro ⟨k, i, j, h1, h2, rfl⟩
    exact ⟨k, by omega, i, by omega, j, by omega, rfl⟩
set_option maxHeartbeats 6400000 in
set_option maxRecDepth 100000 in
theorem cells_any (g n : Nat) (mv : Value) (w : World) (hg : Blk w g 117 #[.int .i64 n, mv]) (h1 : 1 ≤ n) (h20 : n ≤ 20) :
    Calls Tryd.prog 59 #[.pointer (some ⟨g, 0, none⟩)] w fun e w' => ∃ v, e = .returned v ∧ Kd.R k77 81 w' w.heap.size (fun _ => True) v (cellsL n) ∧ Below w.heap.size w w' := by
  have HG := Aside0.mk hg
  have H20 := Aside0.mk h20
  clear hg
  go_enter Tryd.func59, Tryd.ntmps59
  go_wp2_with fail
  go_loopw [3, 7] (fun v3 v7 wr => ∃ k : Nat, k ≤ 2 ∧ v7 = .int .i64 (k : Int) ∧ Aside0 (Kd.R k77 81 wr w.heap.size (fun _ => True) v3 (celK n k)) ∧ Aside0 (Below w.heap.size w wr)) (fun _ v _ => 2 - (intOf v).toNat)
  case atStart => exact ⟨0, Nat.zero_le _, rfl, ⟨Kd.R_nil _ _ _ _ _⟩, ⟨Below.refl _ _⟩⟩
  case round =>
    obtain ⟨k, hk, rfl, HR, HB⟩ := hrel
    by_cases hk2 : k < 2
    · have hdk : decide ((k : Int) < 2) = true := decide_eq_true (by omega)
      have cg : wr.cell? ⟨g, 0, none⟩ = some (.int .i64 (n : Nat)) := (HG.out.later HB.out).cell 0
      go_wp2_with fail
      go_loopw [3, 16] (fun v3 v16 wr => ∃ i : Nat, i ≤ n - k ∧ v16 = .int .i64 (i : Int) ∧ Aside0 (Kd.R k77 81 wr w.heap.size (fun _ => True) v3 (celK n k ++ celI n k i)) ∧ Aside0 (Below w.heap.size w wr)) (fun _ v _ => n - k - (intOf v).toNat)
      case atStart => exact ⟨0, Nat.zero_le _, rfl, ⟨by rw [show celI n k 0 = [] from rfl, List.append_nil]; exact HR.out⟩, HB⟩
      case round =>
        clear HR HB cg
        obtain ⟨i, hi, rfl, HR, HB⟩ := hrel
        by_cases hik : i < n - k
        · have hdi : decide ((i : Int) < (n : Int) - (k : Int)) = true := decide_eq_true (by omega)
          have cg : wr.cell? ⟨g, 0, none⟩ = some (.int .i64 (n : Nat)) := (HG.out.later HB.out).cell 0
          go_wp2_with fail
          go_loopw [3, 27] (fun v3 v27 wr => ∃ j : Nat, j ≤ n - k - i ∧ v27 = .int .i64 (j : Int) ∧ Aside0 (Kd.R k77 81 wr w.heap.size (fun _ => True) v3 (celK n k ++ celI n k i ++ celR k i j)) ∧ Aside0 (Below w.heap.size w wr)) (fun _ v _ => n - k - i - (intOf v).toNat)
          case atStart => exact ⟨0, Nat.zero_le _, rfl, ⟨by rw [show celR k i 0 = [] from rfl, List.append_nil]; exact HR.out⟩, HB⟩
          case round =>
            clear HR HB cg
            obtain ⟨j, hj, rfl, HR, HB⟩ := hrel
            by_cases hjk : j < n - k - i
            · have hlen : (celK n k ++ celI n k i ++ celR k i j).length ≤ 3000 := by
                rw [List.length_append, List.length_append, celR_len]
                have h1 := celK_len (n := n) H20.out k
                have h2 := celI_len (n := n) H20.out k i
                have := H20.out
                omega
              have HL := Aside0.mk hlen
              have hdj : decide ((j : Int) < (n : Int) - (k : Int) - (i : Int)) = true := decide_eq_true (by omega)
              clear hlen
              go_wp2_with (first | ((with_reducible refine gate_builtin (b := .append) (xs := #[.tmp 30, .tmp 35]) rfl ?_); at_builtin; refine Kd.R_append k77 (w0 := w) w.heap.size rfl (.tmp 30) (.tmp 35) 78 81 (.agg #[(.int .i64 0), (.int .i64 0), (.int .i64 0)]) 24 rfl Tryd.underlying78 info81' rfl (by decide) (by omega) u3 (celK n k ++ celI n k i ++ celR k i j) (cel k i j) [.int .i64 (k : Nat), .int .i64 (i : Nat), .int .i64 (j : Nat)] (fun _ => True) (fun _ => False) rfl rfl (k77_mkM _ _ _ (cel k i j)) (fun _ hk => hk.elim) (fun _ _ => trivial) ?aO ?aB ?aS ?aL ?_; (case aO => (with_reducible repeat (first | apply Kd.R_alloc | apply Kd.R_drewN | apply Kd.R_drew)); exact HR.out); (case aB => (repeat (first | (with_reducible first | exact HB.out | apply below_alloc | apply pw_below_drewN | apply below_drew1) | exact HB.out))); (case aS => exact below_size (by repeat (first | (with_reducible first | exact HB.out | apply below_alloc | apply pw_below_drewN | apply below_drew1) | exact HB.out))); (case aL => have := HL.out; omega); intro v9 w9 ho hb hg hat; have HO9 := Aside0.mk ho; have HB9 := Aside0.mk hb; clear ho hb hg hat))
              go_roundw
              case rel => exact ⟨j + 1, by omega, by go_num, ⟨by rw [celR_succ, ← List.append_assoc]; exact HO9.out⟩, HB9⟩
              case measure => simp [intOf]; omega
            · obtain rfl : j = n - k - i := by omega
              have hR := HR.out
              rw [List.append_assoc, ← celI_succ] at hR
              have HR2 := Aside0.mk hR
              have hdj : decide (((n - k - i : Nat) : Int) < (n : Int) - (k : Int) - (i : Int)) = false := decide_eq_false (by omega)
              clear hR
              go_wp2_with fail
              go_roundw
              case rel => exact ⟨i + 1, hik, by go_num, HR2, HB⟩
              case measure => simp [intOf]; omega
        · obtain rfl : i = n - k := by omega
          have hR := HR.out
          rw [← celK_succ] at hR
          have HR2 := Aside0.mk hR
          have hdi : decide (((n - k : Nat) : Int) < (n : Int) - (k : Int)) = false := decide_eq_false (by omega)
          clear hR
          go_wp2_with fail
          go_roundw
          case rel => exact ⟨k + 1, by omega, by go_num, HR2, HB⟩
          case measure => simp [intOf]; omega
    · obtain rfl : k = 2 := by omega
      go_wp2_with fail
      go_ret
      exact ⟨_, rfl, HR.out, HB.out⟩
end Go.Proofs.YtlmgkmmdaecpdaaDoor.Im

namespace Go.Proofs.YtlmgkmmdaecpdaaDoor.Im
open Go.RowKit Go.Proofs.YtlmgkmmdaecpdaaDoorW.PrintWords Go.Proofs.YtlmgkmmdaecpdaaDoorW.PrintLast Go.Proofs.YtlmgkmmdaecpdaaDoorW.PrintMore Go.Proofs.YtlmgkmmdaecpdaaDoor.Mi
set_option linter.unusedVariables false
set_option linter.unusedSimpArgs false
def fulC (n : Nat) (l : List UInt8) (x : S77) : Bool := fulB (txtB n l x.f0.toNat x.f1.toNat x.f2.toNat)
def cel3 (x : S77) : List Int := [x.f0, x.f1, x.f2]
def fulL (n : Nat) (l : List UInt8) : List (List Int) := ((cellsL n).filter (fulC n l)).map cel3
def fulT (n : Nat) (l : List UInt8) (q : Nat) : List (List Int) := (((cellsL n).take q).filter (fulC n l)).map cel3
theorem fulT_succ (n : Nat) (l : List UInt8) {q : Nat} (h : q < (cellsL n).length) : fulT n l (q + 1) = fulT n l q ++ (if fulC n l (cellsL n)[q] = true then [cel3 (cellsL n)[q]] else []) := by
  unfold fulT
  rw [List.take_succ_eq_append_getElem h, List.filter_append, List.map_append]
  congr 1
  by_cases hc : fulC n l (cellsL n)[q] = true
  · rw [if_pos hc, List.filter_cons_of_pos hc]; rfl
  · rw [if_neg hc, List.filter_cons_of_neg hc]; rfl
theorem fulT_all (n : Nat) (l : List UInt8) : fulT n l (cellsL n).length = fulL n l := by unfold fulT fulL; rw [List.take_length]
theorem clone_any (gc : Nat) (t : TypeId) (a b c : Int) (w : World) (h : Blk w gc t #[.int .i64 a, .int .i64 b, .int .i64 c]) :
    Calls Tryd.prog 61 #[.slice (some ⟨gc, 0, none⟩) 3 3] w fun e w' => ∃ v', e = .returned v' ∧ Kd.R (Kd.int .i64) 3 w' w.heap.size (fun q => w.heap.size ≤ q) v' [a, b, c] ∧ Below w.heap.size w w' := by
  refine (Tryd.slices_Clone_int gc 0 3 3 [a, b, c] w (by simp) (by omega) (fun j hj => ?_)).mono ?_
  · rw [Nat.zero_add, h.cell]
    have hj3 : j < 3 := hj
    match j, hj3 with
    | 0, _ => rfl
    | 1, _ => rfl
    | 2, _ => rfl
  · rintro e w' ⟨v', rfl, ho, _, hb⟩
    refine ⟨v', rfl, Kd.R_of_own ?_ (fun k hk => (World.ownsRow.lt ho k hk).1), hb⟩
    have e1 : encs (Value.int .i64) [a, b, c] = ([a, b, c].take 3).map (Value.int .i64) := by simp [encs]
    rw [e1]
    exact ho
theorem infoII : (Tryd.prog.info? 34).map (fun i => (i.zero, i.size, i.bytes)) = some (some (.slice none 0 0), 1, 24) := by kernel_rfl
theorem fulT_len (n : Nat) (l : List UInt8) (q : Nat) : (fulT n l q).length ≤ (cellsL n).length := by
  unfold fulT
  rw [List.length_map]
  exact Nat.le_trans (List.length_filter_le _ _) (by rw [List.length_take]; omega)
def FullPost (n : Int) (s : ByteArray) (w : World) (e : Ending) (w' : World) : Prop :=
  Below w.heap.size w w' ∧ if triE n s = 0 then ∃ v, e = .returned (.tuple #[v, .int .i64 0]) ∧ Kd.R (Kd.slice 3 (Kd.int .i64)) 34 w' w.heap.size (fun _ => True) v (fulL n.toNat s.data.toList)
    else e = .returned (.tuple #[.slice none 0 0, .int .i64 (triE n s)])
set_option maxHeartbeats 6400000 in
set_option maxRecDepth 100000 in
theorem full_bad (n : Int) (s : ByteArray) (w : World) (hs : s.size ≤ 9223372036854775807) (hE : triE n s ≠ 0) :
    Calls Tryd.prog 28 #[.int .i64 n, .string s] w (FullPost n s w) := by
  have HO := Aside0.mk (of_any n s w hs)
  have HP : Aside0 (∀ w', Below w.heap.size w w' → FullPost n s w (.returned (.tuple #[.slice none 0 0, .int .i64 (triE n s)])) w') := ⟨fun w' hb => ⟨hb, by rw [if_neg hE]⟩⟩
  have HQ := Aside0.mk (fun e w2 (h : OfPost n s w e w2) => (show e = .returned (.tuple #[.pointer none, .int .i64 (triE n s)]) ∧ Below w.heap.size w w2 by
    unfold OfPost at h
    rw [if_neg hE] at h
    exact ⟨h.2, h.1⟩))
  have hz : (triE n s == 0) = false := beq_eq_false_iff_ne.2 hE
  clear hE
  generalize triE n s = z at *
  go_enter Tryd.func28, Tryd.ntmps28
  go_wp2_with fail
  refine HO.out.mono ?_
  intro e w1 h1
  obtain ⟨rfl, hb1⟩ := HQ.out _ _ h1
  have HB := Aside0.mk hb1
  clear h1 hb1
  go_wp2_with fail
  go_ret2
  exact HP.out _ HB.out
end Go.Proofs.YtlmgkmmdaecpdaaDoor.Im

namespace Go.Proofs.YtlmgkmmdaecpdaaDoor.Im
open Go.RowKit Go.Proofs.YtlmgkmmdaecpdaaDoorW.PrintWords Go.Proofs.YtlmgkmmdaecpdaaDoorW.PrintLast Go.Proofs.YtlmgkmmdaecpdaaDoorW.PrintMore Go.Proofs.YtlmgkmmdaecpdaaDoor.Mi
set_option linter.unusedVariables false
set_option linter.unusedSimpArgs false
set_option maxHeartbeats 6400000 in
set_option maxRecDepth 100000 in
theorem full_good (n : Int) (s : ByteArray) (w : World) (hs : s.size ≤ 9223372036854775807) (hE : triE n s = 0) :
    Calls Tryd.prog 28 #[.int .i64 n, .string s] w (FullPost n s w) := by
  have HO := Aside0.mk (of_any n s w hs)
  have HE := Aside0.mk hE
  clear hE
  obtain ⟨l, hl⟩ : ∃ l, s.data.toList = l := ⟨_, rfl⟩
  have HLs := Aside0.mk hl
  clear hl
  go_enter Tryd.func28, Tryd.ntmps28
  go_wp2_with fail
  refine HO.out.mono ?_
  rintro e w1 ⟨hb1, h1⟩
  rw [if_pos HE.out] at h1
  obtain ⟨g, mb, m, D, rfl, ht, _, _⟩ := h1
  have hn1 := ht.n1
  obtain ⟨N, rfl⟩ : ∃ N : Nat, n = N := ⟨n.toNat, by omega⟩
  rw [Int.toNat_natCast, HLs.out] at ht
  have HT := Aside0.mk ht
  have HB := Aside0.mk hb1
  have h20 := ht.n20
  rw [Int.toNat_natCast] at hn1
  have HCe := Aside0.mk (cells_any g N (.map (some mb)) w1 ht.hd hn1 h20)
  clear ht hb1 h20 HO
  go_wp2_with fail
  refine HCe.out.mono ?_
  rintro e w2 ⟨v, rfl, hR, hb2⟩
  obtain ⟨A, c, rfl, hl, hC⟩ := Kd.R_reads hR
  have HC := Aside0.mk hC
  have HB2 := Aside0.mk (below_then HB.out HB.out.size hb2)
  have HT2 := Aside0.mk (HT.out.later hb2)
  have hlen : (cellsL N).length ≤ 800 := by have := celK_len (n := N) HT.out.n20 2; unfold cellsL; omega
  clear hC hb2 hR HT HB HCe
  obtain ⟨Q, hQ⟩ : ∃ Q, (cellsL N).length = Q := ⟨_, rfl⟩
  rw [hQ] at HC hl hlen ⊢
  have HQ := Aside0.mk hQ
  clear hQ
  go_wp2_with fail
  go_loopw [8, 23] (fun v8 v23 wr => ∃ q : Nat, q ≤ Q ∧ v23 = .int .i64 (q : Int) ∧ Aside0 (Kd.R (Kd.slice 3 (Kd.int .i64)) 34 wr w2.heap.size (fun _ => True) v8 (fulT N l q)) ∧ Aside0 (Below w2.heap.size w2 wr)) (fun _ v _ => Q - (intOf v).toNat)
  case atStart => exact ⟨0, Nat.zero_le _, rfl, ⟨Kd.R_nil _ _ _ _ _⟩, ⟨Below.refl _ _⟩⟩
  case round =>
    obtain ⟨q, hq, rfl, HR, HBr⟩ := hrel
    by_cases hqQ : q < Q
    · have q0 : (0 : Int) ≤ (q : Int) := Int.natCast_nonneg q
      have q1 : (q : Int) < (Q : Int) := Int.ofNat_lt.2 hqQ
      obtain ⟨ad, rfl, c0, c1, c2⟩ := at_T77 (Kd.C_below HC.out HBr.out) (q : Int) q0 q1
      rw [Int.toNat_natCast] at c0 c1 c2
      have hlt : q < (cellsL N).length := by rw [HQ.out]; exact hqQ
      have hrd : rd_T77 (cellsL N) (q : Int) = (cellsL N)[q] := by
        unfold rd_T77
        rw [Int.toNat_natCast, List.getD_eq_getElem?_getD, List.getElem?_eq_getElem hlt]; rfl
      obtain ⟨k, i, j, hk, hij, hx⟩ := mem_cells.1 (List.getElem_mem hlt)
      rw [hrd, hx] at c0 c1 c2
      change wr.cell? (ad.add (q * 3)) = some (.int .i64 (k : Int)) at c0
      change wr.cell? ⟨(ad.add (q * 3)).block, (ad.add (q * 3)).off + 1, none⟩ = some (.int .i64 (i : Int)) at c1
      change wr.cell? ⟨(ad.add (q * 3)).block, (ad.add (q * 3)).off + 2, none⟩ = some (.int .i64 (j : Int)) at c2
      have hsuc := fulT_succ N l hlt
      rw [hx] at hsuc
      have HSuc := Aside0.mk hsuc
      clear hsuc hrd hx hlt
      go_wp2_with fail
      have hbn : Below wr.heap.size wr (wr.alloc (.cells #[.int .i64 (k : Nat), .int .i64 (i : Nat), .int .i64 (j : Nat)] 81)) := below_alloc (Below.refl _ _) _
      have HN := Aside0.mk (Blk.new wr 81 #[.int .i64 (k : Nat), .int .i64 (i : Nat), .int .i64 (j : Nat)])
      have HF := Aside0.mk (full_any g N mb m l D k i j _ ((HT2.out.later HBr.out).later hbn) hk hij)
      have HB3 := Aside0.mk (below_then HBr.out HBr.out.size hbn)
      have hfc : fulC N l (cel k i j) = fulB (txtB N l k i j) := rfl
      rw [hfc] at HSuc
      have HBn := Aside0.mk hbn
      clear hbn hfc c0 c1 c2
      obtain ⟨bb, hbb⟩ : ∃ bb, fulB (txtB N l k i j) = bb := ⟨_, rfl⟩
      rw [hbb] at HF HSuc
      clear hbb
      refine HF.out.mono ?_
      rintro e w3 ⟨rfl, hb3⟩
      have HB4 := Aside0.mk (below_then HB3.out HB3.out.size hb3)
      have HN3 := Aside0.mk (HN.out.later hb3)
      obtain ⟨gc, hgc⟩ : ∃ gc, wr.heap.size = gc := ⟨_, rfl⟩
      rw [hgc] at HN3 ⊢
      have HRb := Aside0.mk (Kd.R_below HR.out (show Below wr.heap.size wr w3 from below_then HBn.out HBn.out.size hb3))
      clear hb3 HF HN HB3
      cases bb with
      | false =>
        have hS := HSuc.out
        rw [if_neg (by simp), List.append_nil] at hS
        have HS := Aside0.mk hS
        clear hS
        go_wp2_with fail
        go_roundw
        case rel => exact ⟨q + 1, hqQ, by go_num, ⟨by rw [HS.out]; exact HRb.out⟩, HB4⟩
        case measure => simp [intOf]; omega
      | true =>
        have hS := HSuc.out
        rw [if_pos rfl] at hS
        have HS := Aside0.mk hS
        have HCl := Aside0.mk (clone_any gc 81 _ _ _ w3 HN3.out)
        clear hS
        go_wp2_with fail
        refine HCl.out.mono ?_
        rintro e w4 ⟨vc, rfl, hRc, hb4⟩
        have HRR := Aside0.mk (Kd.R_bound HRb.out)
        have HR4 := Aside0.mk (Kd.R_below HRb.out hb4)
        have HB5 := Aside0.mk (below_then HB2.out HB2.out.size (below_then HB4.out HB4.out.size hb4))
        have HB6 := Aside0.mk (below_then HB4.out HB4.out.size hb4)
        have hw3 : w2.heap.size ≤ w3.heap.size := HB4.out.size
        obtain ⟨G, cG, hv, _⟩ := Kd.R_form hRc (by simp)
        replace hv : vc = .slice (some ⟨G, 0, none⟩) 3 cG := hv
        subst hv
        have HRc := Aside0.mk (Kd.R_lower hRc hw3)
        have HLN : Aside0 ((fulT N l q).length ≤ 800) := ⟨Nat.le_trans (fulT_len N l q) (by rw [HQ.out]; exact hlen)⟩
        clear hRc hb4 hw3
        go_wp2_with (first | ((with_reducible refine gate_builtin (b := .append) (xs := #[.tmp 30, .tmp 33]) rfl ?_); at_builtin; refine Kd.R_append (Kd.slice 3 (Kd.int .i64)) (w0 := w2) w2.heap.size rfl (.tmp 30) (.tmp 33) 40 34 (.slice none 0 0) 24 rfl Tryd.underlying40 infoII rfl (by decide) (by omega) _ (fulT N l q) (cel3 (cel k i j)) [.slice (some ⟨G, 0, none⟩) 3 cG] (fun _ => True) (fun q => w3.heap.size ≤ q) rfl rfl ?aP ?aK ?aF ?aO ?aB ?aS ?aL ?_; (case aP => exact ⟨_, rfl, HRc.out⟩); (case aK => exact (fun q hq => ⟨trivial, fun he => by have := (HRR.out.1 q he.symm).2.2.1; omega⟩)); (case aF => exact (fun k hk => trivial)); (case aO => exact HR4.out); (case aB => exact HB6.out); (case aS => exact HB6.out.size); (case aL => have := HLN.out; omega); intro v9 w9 ho hb hg hat; rw [← HS.out] at ho; have HR9 := Aside0.mk ho; have HB9 := Aside0.mk hb; clear ho hb hg hat))
        go_roundw
        case rel => exact ⟨q + 1, hqQ, by go_num, HR9, HB9⟩
        case measure => simp [intOf]; omega
    · obtain rfl : q = Q := by omega
      have hR := HR.out
      rw [← HQ.out, fulT_all] at hR
      have HR2 := Aside0.mk (Kd.R_lower hR HB2.out.size)
      clear hR
      go_wp2_with fail
      go_ret2
      refine ⟨below_then HB2.out HB2.out.size HBr.out, ?_⟩
      rw [if_pos HE.out]
      exact ⟨_, rfl, by rw [Int.toNat_natCast, HLs.out]; exact HR2.out⟩
theorem full_call (n : Int) (s : ByteArray) (w : World) (hs : s.size ≤ 9223372036854775807) : Calls Tryd.prog 28 #[.int .i64 n, .string s] w (FullPost n s w) := by
  by_cases hE : triE n s = 0
  · exact full_good n s w hs hE
  · exact full_bad n s w hs hE
end Go.Proofs.YtlmgkmmdaecpdaaDoor.Im

namespace Go.Proofs.YtlmgkmmdaecpdaaDoor.Im
open Go.RowKit Go.Proofs.YtlmgkmmdaecpdaaDoorW.PrintWords Go.Proofs.YtlmgkmmdaecpdaaDoorW.PrintLast Go.Proofs.YtlmgkmmdaecpdaaDoorW.PrintMore Go.Proofs.YtlmgkmmdaecpdaaDoor.Mi
set_option linter.unusedVariables false
set_option linter.unusedSimpArgs false
def turB (s : ByteArray) (k : Nat) : Bool := Lib.contains [48, 49, 50, 48, 49] s.data.toList == decide (k = 0)
def turC (n : Nat) (l : List UInt8) (x : S77) : Bool := turB (txtB n l x.f0.toNat x.f1.toNat x.f2.toNat) x.f0.toNat
def rigN (n : Nat) (l : List UInt8) (q : Nat) : Nat := ((cellsL n).take q).countP fun x => fulC n l x && turC n l x
def lefN (n : Nat) (l : List UInt8) (q : Nat) : Nat := ((cellsL n).take q).countP fun x => fulC n l x && !turC n l x
def rigL (n : Nat) (l : List UInt8) : Nat := (cellsL n).countP fun x => fulC n l x && turC n l x
def lefL (n : Nat) (l : List UInt8) : Nat := (cellsL n).countP fun x => fulC n l x && !turC n l x
theorem rigN_all (n : Nat) (l : List UInt8) : rigN n l (cellsL n).length = rigL n l := by unfold rigN rigL; rw [List.take_length]
theorem lefN_all (n : Nat) (l : List UInt8) : lefN n l (cellsL n).length = lefL n l := by unfold lefN lefL; rw [List.take_length]
theorem rigN_succ (n : Nat) (l : List UInt8) {q : Nat} (h : q < (cellsL n).length) : rigN n l (q + 1) = rigN n l q + (if (fulC n l (cellsL n)[q] && turC n l (cellsL n)[q]) = true then 1 else 0) := by
  unfold rigN
  rw [List.take_succ_eq_append_getElem h, List.countP_append, List.countP_singleton]
theorem lefN_succ (n : Nat) (l : List UInt8) {q : Nat} (h : q < (cellsL n).length) : lefN n l (q + 1) = lefN n l q + (if (fulC n l (cellsL n)[q] && !turC n l (cellsL n)[q]) = true then 1 else 0) := by
  unfold lefN
  rw [List.take_succ_eq_append_getElem h, List.countP_append, List.countP_singleton]
theorem rigN_le (n : Nat) (l : List UInt8) (q : Nat) : rigN n l q ≤ (cellsL n).length := Nat.le_trans List.countP_le_length (by rw [List.length_take]; omega)
theorem lefN_le (n : Nat) (l : List UInt8) (q : Nat) : lefN n l q ≤ (cellsL n).length := Nat.le_trans List.countP_le_length (by rw [List.length_take]; omega)
def TurnsPost (n : Int) (s : ByteArray) (w : World) (e : Ending) (w' : World) : Prop :=
  Below w.heap.size w w' ∧ e = if triE n s = 0 then .returned (.tuple #[.int .i64 (rigL n.toNat s.data.toList : Nat), .int .i64 (lefL n.toNat s.data.toList : Nat), .int .i64 0])
    else .returned (.tuple #[.int .i64 0, .int .i64 0, .int .i64 (triE n s)])
set_option maxHeartbeats 6400000 in
set_option maxRecDepth 100000 in
theorem turns_good (n : Int) (s : ByteArray) (w : World) (hs : s.size ≤ 9223372036854775807) (hE : triE n s = 0) (mL : Int) (hm : w.cell? ⟨1, 0, none⟩ = some (.int .i64 mL)) :
    Calls Tryd.prog 31 #[.int .i64 n, .string s] w (TurnsPost n s w) := by
  have HO := Aside0.mk (of_any n s w hs)
  have HE := Aside0.mk hE
  have HM := Aside0.mk hm
  clear hE hm
  obtain ⟨l, hl⟩ : ∃ l, s.data.toList = l := ⟨_, rfl⟩
  have HLs := Aside0.mk hl
  clear hl
  go_enter Tryd.func31, Tryd.ntmps31
  go_wp2_with fail
  refine HO.out.mono ?_
  rintro e w1 ⟨hb1, h1⟩
  rw [if_pos HE.out] at h1
  obtain ⟨g, mb, m, D, rfl, ht, _, _⟩ := h1
  have hn1 := ht.n1
  obtain ⟨N, rfl⟩ : ∃ N : Nat, n = N := ⟨n.toNat, by omega⟩
  rw [Int.toNat_natCast, HLs.out] at ht
  have HT := Aside0.mk ht
  have HB := Aside0.mk hb1
  have h20 := ht.n20
  rw [Int.toNat_natCast] at hn1
  have HCe := Aside0.mk (cells_any g N (.map (some mb)) w1 ht.hd hn1 h20)
  clear ht hb1 h20 HO
  go_wp2_with fail
  refine HCe.out.mono ?_
  rintro e w2 ⟨v, rfl, hR, hb2⟩
  obtain ⟨A, c, rfl, hl, hC⟩ := Kd.R_reads hR
  have HC := Aside0.mk hC
  have HB2 := Aside0.mk (below_then HB.out HB.out.size hb2)
  have HT2 := Aside0.mk (HT.out.later hb2)
  have hlen : (cellsL N).length ≤ 800 := by have := celK_len (n := N) HT.out.n20 2; unfold cellsL; omega
  clear hC hb2 hR HT HB HCe
  obtain ⟨Q, hQ⟩ : ∃ Q, (cellsL N).length = Q := ⟨_, rfl⟩
  rw [hQ] at HC hl hlen ⊢
  have HQ := Aside0.mk hQ
  clear hQ
  go_wp2_with fail
  go_loopw [9, 10, 26] (fun v9 v10 v26 wr => ∃ q : Nat, q ≤ Q ∧ v26 = .int .i64 (q : Int) ∧ v9 = .int .i64 (rigN N l q : Nat) ∧ v10 = .int .i64 (lefN N l q : Nat) ∧ Aside0 (Below w2.heap.size w2 wr)) (fun _ _ v _ => Q - (intOf v).toNat)
  case atStart => exact ⟨0, Nat.zero_le _, rfl, rfl, rfl, ⟨Below.refl _ _⟩⟩
  case round =>
    obtain ⟨q, hq, rfl, rfl, rfl, HBr⟩ := hrel
    by_cases hqQ : q < Q
    · have q0 : (0 : Int) ≤ (q : Int) := Int.natCast_nonneg q
      have q1 : (q : Int) < (Q : Int) := Int.ofNat_lt.2 hqQ
      obtain ⟨ad, rfl, c0, c1, c2⟩ := at_T77 (Kd.C_below HC.out HBr.out) (q : Int) q0 q1
      rw [Int.toNat_natCast] at c0 c1 c2
      have hlt : q < (cellsL N).length := by rw [HQ.out]; exact hqQ
      have hrd : rd_T77 (cellsL N) (q : Int) = (cellsL N)[q] := by
        unfold rd_T77
        rw [Int.toNat_natCast, List.getD_eq_getElem?_getD, List.getElem?_eq_getElem hlt]; rfl
      obtain ⟨k, i, j, hk, hij, hx⟩ := mem_cells.1 (List.getElem_mem hlt)
      rw [hrd, hx] at c0 c1 c2
      change wr.cell? (ad.add (q * 3)) = some (.int .i64 (k : Int)) at c0
      change wr.cell? ⟨(ad.add (q * 3)).block, (ad.add (q * 3)).off + 1, none⟩ = some (.int .i64 (i : Int)) at c1
      change wr.cell? ⟨(ad.add (q * 3)).block, (ad.add (q * 3)).off + 2, none⟩ = some (.int .i64 (j : Int)) at c2
      have hsr := rigN_succ N l hlt
      have hsl := lefN_succ N l hlt
      rw [hx] at hsr hsl
      have HSR := Aside0.mk hsr
      have HSL := Aside0.mk hsl
      clear hsr hsl hrd hx hlt
      go_wp2_with fail
      have hbn : Below wr.heap.size wr (wr.alloc (.cells #[.int .i64 (k : Nat), .int .i64 (i : Nat), .int .i64 (j : Nat)] 81)) := below_alloc (Below.refl _ _) _
      have HN := Aside0.mk (Blk.new wr 81 #[.int .i64 (k : Nat), .int .i64 (i : Nat), .int .i64 (j : Nat)])
      have HF := Aside0.mk (full_any g N mb m l D k i j _ ((HT2.out.later HBr.out).later hbn) hk hij)
      have HB3 := Aside0.mk (below_then HBr.out HBr.out.size hbn)
      have hfc : fulC N l (cel k i j) = fulB (txtB N l k i j) := rfl
      rw [hfc] at HSR HSL
      have HBn := Aside0.mk hbn
      clear hbn hfc c0 c1 c2
      obtain ⟨bb, hbb⟩ : ∃ bb, fulB (txtB N l k i j) = bb := ⟨_, rfl⟩
      rw [hbb] at HF HSR HSL
      clear hbb
      refine HF.out.mono ?_
      rintro e w3 ⟨rfl, hb3⟩
      have HT4 := Aside0.mk (HT2.out.later (below_then HB3.out HB3.out.size hb3))
      have HB4 := Aside0.mk (below_then HB3.out HB3.out.size hb3)
      have HN3 := Aside0.mk (HN.out.later hb3)
      obtain ⟨gc, hgc⟩ : ∃ gc, wr.heap.size = gc := ⟨_, rfl⟩
      rw [hgc] at HN3 ⊢
      clear hb3 HF HN HB3
      have lr := rigN_le N l q
      have ll := lefN_le N l q
      rw [HQ.out] at lr ll
      cases bb with
      | false =>
        have hr := HSR.out
        have hl2 := HSL.out
        simp only [Bool.false_and, Bool.false_eq_true, if_false, Nat.add_zero] at hr hl2
        have HR1 := Aside0.mk hr
        have HL1 := Aside0.mk hl2
        clear hr hl2
        go_wp2_with fail
        go_roundw
        case rel => exact ⟨q + 1, hqQ, by go_num, by rw [HR1.out], by rw [HL1.out], HB4⟩
        case measure => simp [intOf]; omega
      | true =>
        have hr := HSR.out
        have hl2 := HSL.out
        simp only [Bool.true_and] at hr hl2
        have htc : turC N l (cel k i j) = turB (txtB N l k i j) k := rfl
        rw [htc] at hr hl2
        unfold turB at hr hl2
        have HTx := Aside0.mk (text_any g N mb m l D k i j w3 HT4.out hk hij)
        have HCn := Aside0.mk (fun w4 h4 => Tryd.strings_Contains ⟨#[48, 49, 50, 48, 49]⟩ (txtB N l k i j) mL w4 (by decide) h4)
        obtain ⟨cb, hcb⟩ : ∃ cb, Lib.contains [48, 49, 50, 48, 49] (txtB N l k i j).data.toList = cb := ⟨_, rfl⟩
        have hcb2 : Lib.contains (⟨#[48, 49, 50, 48, 49]⟩ : ByteArray).data.toList (txtB N l k i j).data.toList = cb := hcb
        rw [hcb2] at HCn
        rw [hcb] at hr hl2
        have d0 : w3.cell? ⟨gc, 0, none⟩ = some (.int .i64 (k : Nat)) := HN3.out.cell 0
        have d1 : w3.cell? ⟨gc, 1, none⟩ = some (.int .i64 (i : Nat)) := HN3.out.cell 1
        have d2 : w3.cell? ⟨gc, 2, none⟩ = some (.int .i64 (j : Nat)) := HN3.out.cell 2
        have HRr := Aside0.mk hr
        have HLl := Aside0.mk hl2
        clear hr hl2 htc hcb hcb2
        generalize rigN N l q = rn at *
        generalize lefN N l q = ln at *
        obtain ⟨tx, htx⟩ : ∃ tx, txtB N l k i j = tx := ⟨_, rfl⟩
        rw [htx] at HTx HCn
        clear htx
        rcases (show k = 0 ∨ k = 1 by omega) with rfl | rfl <;> cases cb
        all_goals
          go_wp2_with fail
          refine HTx.out.mono ?_
          rintro e w4 ⟨rfl, hb4⟩
          have HB5 := Aside0.mk (below_then HB4.out HB4.out.size hb4)
          have hm4 : w4.cell? ⟨1, 0, none⟩ = some (.int .i64 mL) := ((below_then HB2.out HB2.out.size HB5.out).cell (World.block_lt_of_cell? w _ HM.out)).trans HM.out
          have e0 := (hb4.cell (World.block_lt_of_cell? w3 _ d0)).trans d0
          clear hb4 d0 d1 d2
          go_wp2_with fail
          refine (HCn.out w4 hm4).mono ?_
          rintro e w5 ⟨rfl, rfl⟩
          clear hm4
          go_wp2_with fail
          go_roundw
          case rel => exact ⟨q + 1, hqQ, by go_num, by rw [HRr.out]; first | rfl | go_num, by rw [HLl.out]; first | rfl | go_num, HB5⟩
          case measure => simp [intOf]; omega
    · obtain rfl : q = Q := by omega
      have HRa := Aside0.mk (show rigN N l q = rigL N l by rw [← HQ.out, rigN_all])
      have HLa := Aside0.mk (show lefN N l q = lefL N l by rw [← HQ.out, lefN_all])
      go_wp2_with fail
      go_ret3
      refine ⟨below_then HB2.out HB2.out.size HBr.out, ?_⟩
      rw [if_pos HE.out, Int.toNat_natCast, HLs.out, HRa.out, HLa.out]
      rfl
set_option maxHeartbeats 6400000 in
set_option maxRecDepth 100000 in
theorem turns_bad (n : Int) (s : ByteArray) (w : World) (hs : s.size ≤ 9223372036854775807) (hE : triE n s ≠ 0) :
    Calls Tryd.prog 31 #[.int .i64 n, .string s] w (TurnsPost n s w) := by
  have HO := Aside0.mk (of_any n s w hs)
  have HP : Aside0 (∀ w', Below w.heap.size w w' → TurnsPost n s w (.returned (.tuple #[.int .i64 0, .int .i64 0, .int .i64 (triE n s)])) w') := ⟨fun w' hb => ⟨hb, by rw [if_neg hE]⟩⟩
  have HQ := Aside0.mk (fun e w2 (h : OfPost n s w e w2) => (show e = .returned (.tuple #[.pointer none, .int .i64 (triE n s)]) ∧ Below w.heap.size w w2 by
    unfold OfPost at h
    rw [if_neg hE] at h
    exact ⟨h.2, h.1⟩))
  have hz : (triE n s == 0) = false := beq_eq_false_iff_ne.2 hE
  clear hE
  generalize triE n s = z at *
  go_enter Tryd.func31, Tryd.ntmps31
  go_wp2_with fail
  refine HO.out.mono ?_
  intro e w1 h1
  obtain ⟨rfl, hb1⟩ := HQ.out _ _ h1
  have HB := Aside0.mk hb1
  clear h1 hb1
  go_wp2_with fail
  go_ret3
  exact HP.out _ HB.out
theorem turns_call (n : Int) (s : ByteArray) (w : World) (hs : s.size ≤ 9223372036854775807) (mL : Int) (hm : w.cell? ⟨1, 0, none⟩ = some (.int .i64 mL)) : Calls Tryd.prog 31 #[.int .i64 n, .string s] w (TurnsPost n s w) := by
  by_cases hE : triE n s = 0
  · exact turns_good n s w hs hE mL hm
  · exact turns_bad n s w hs hE
end Go.Proofs.YtlmgkmmdaecpdaaDoor.Im

namespace Go.Proofs.YtlmgkmmdaecpdaaDoor.Im
open Go.RowKit Go.Proofs.YtlmgkmmdaecpdaaDoorW.PrintWords Go.Proofs.YtlmgkmmdaecpdaaDoorW.PrintLast Go.Proofs.YtlmgkmmdaecpdaaDoorW.PrintMore Go.Proofs.YtlmgkmmdaecpdaaDoor.Mi
set_option linter.unusedVariables false
theorem al_full : fulL 1 [48, 50, 49] = [[0, 0, 0]] := by decide
theorem al_rig : rigL 1 [48, 50, 49] = 1 := by decide
theorem al_lef : lefL 1 [48, 50, 49] = 0 := by decide
theorem al_err : triE 1 ⟨#[48, 50, 49]⟩ = 0 := by decide
end Go.Proofs.YtlmgkmmdaecpdaaDoor.Im

namespace Go.Proofs.YtlmgkmmdaecpdaaDoor.Mi
set_option linter.unusedVariables false
theorem min_ex (p : Nat → Prop) : ∀ n, p n → ∃ k, p k ∧ ∀ m, p m → k ≤ m := by
  intro n
  induction n using Nat.strongRecOn with
  | _ n ih =>
    intro hn
    by_cases h : ∃ m, m < n ∧ p m
    · obtain ⟨m, h1, h2⟩ := h
      exact ih m h1 h2
    · exact ⟨n, hn, fun m hm => by
        rcases Nat.lt_or_ge m n with h1 | h1
        · exact absurd ⟨m, h1, hm⟩ h
        · exact h1⟩
section
variable {m : Nat} {nb : Nat → Nat → Prop} {ok be en : Nat → Prop} {c : Nat → Nat}
theorem Least.pos {a d : Nat} (h : Dist m nb ok en a d) : a < m ∧ ok a ∧ 1 ≤ d := by
  obtain ⟨P, k1, k2, k3⟩ := h.real
  match P, k1, k2, k3 with
  | [], k1, _, _ => exact absurd rfl k1.ne
  | q :: t, k1, k2, k3 =>
    have k2 : q = a := k2
    subst k2
    have := k1.mem q (by simp)
    have k3 : 1 + costN one t = d := k3
    exact ⟨this.1, this.2, by omega⟩
theorem greedy_ex : ∀ (d a : Nat), Dist m nb ok en a (d + 1) → ∃ t, t.length = d ∧ Wy m nb ok en (a :: t) ∧ Greedy m nb ok en (a :: t)
  | 0, a, h => by
    have h1 := Dist.end_ h
    exact ⟨[], rfl, Wy.one h1.2.1 h1.2.2 h1.1, trivial⟩
  | d + 1, a, h => by
    obtain ⟨j0, h1, h2⟩ := Dist.next h
    obtain ⟨j, ⟨k1, k2⟩, k3⟩ := min_ex (fun j => nb a j ∧ Dist m nb ok en j (d + 1)) j0 ⟨h1, h2⟩
    obtain ⟨t, l1, l2, l3⟩ := greedy_ex d j k2
    have ha := Least.pos h
    refine ⟨j :: t, by simp [l1], l2.cons ha.1 ha.2.1 k1, ⟨k1, fun x hx hd => k3 x ⟨hx, ?_⟩⟩, l3⟩
    rw [l1] at hd
    exact hd
theorem First.ex {P : List Nat} (hP : Wy m nb ok en P) (hb : be (headN P)) : ∃ G, First m nb ok be en G := by
  obtain ⟨e, he⟩ := Least.ex (c := one) (a := headN P) _ ⟨P, hP, rfl, Nat.le_refl _⟩
  obtain ⟨d, ⟨a0, h1, h2⟩, h3⟩ := min_ex (fun d => ∃ a, be a ∧ Dist m nb ok en a d) e ⟨_, hb, he⟩
  obtain ⟨a, ⟨k1, k2⟩, k3⟩ := min_ex (fun a => be a ∧ Dist m nb ok en a d) a0 ⟨h1, h2⟩
  obtain ⟨r, rfl⟩ : ∃ r, d = r + 1 := ⟨d - 1, by have := (Least.pos k2).2.2; omega⟩
  obtain ⟨t, l1, l2, l3⟩ := greedy_ex r a k2
  have hl : (a :: t).length = r + 1 := by simp [l1]
  exact ⟨a :: t, l2, k1, by rw [hl]; exact k2, fun x d' hx hd => by rw [hl]; exact h3 d' ⟨x, hx, hd⟩, fun x hx hd => by rw [hl] at hd; exact k3 x ⟨hx, hd⟩, l3⟩
theorem Need.ex {P : List Nat} (hP : Wy m nb ok en P) (hb : be (headN P)) : ∃ d, Need m nb ok be en c d := by
  obtain ⟨d, ⟨Q, h1, h2, h3⟩, h4⟩ := min_ex (fun d => ∃ Q, Wy m nb ok en Q ∧ be (headN Q) ∧ costN c Q = d) _ ⟨P, hP, hb, rfl⟩
  exact ⟨d, ⟨Q, h1, h2, h3⟩, fun R r1 r2 => h4 _ ⟨R, r1, r2, rfl⟩⟩
end
end Go.Proofs.YtlmgkmmdaecpdaaDoor.Mi

namespace Go.Proofs.YtlmgkmmdaecpdaaDoor.Im
open Go.RowKit Go.Proofs.YtlmgkmmdaecpdaaDoorW.PrintWords Go.Proofs.YtlmgkmmdaecpdaaDoorW.PrintLast Go.Proofs.YtlmgkmmdaecpdaaDoorW.PrintMore Go.Proofs.YtlmgkmmdaecpdaaDoor.Mi
set_option linter.unusedVariables false
def xoB : ByteArray := ⟨#[120, 111]⟩
def xodB : ByteArray := ⟨#[120, 111, 46]⟩
theorem full_byte {n : Int} {s : ByteArray} (h : boE n s xoB = 0) {a : Nat} (ha : a < s.size) : (bsOf s).getD a 0 = 120 ∨ (bsOf s).getD a 0 = 111 := by
  unfold boE at h
  split at h
  · cases h
  · split at h
    · rename_i h2
      have ha' : a < s.data.size := ha
      have e : (bsOf s).getD a 0 = (s.data[a].toNat : Int) := by unfold bsOf; simp only [List.getD_eq_getElem?_getD, List.getElem?_map, Array.getElem?_toList]; rw [Array.getElem?_eq_getElem ha']; rfl
      have h3 := List.all_eq_true.1 h2.2 s.data[a] (by simp)
      have h4 : s.data[a] = 120 ∨ s.data[a] = 111 := by simpa [xoB] using h3
      rw [e]
      rcases h4 with h4 | h4
      · left; rw [h4]; rfl
      · right; rw [h4]; rfl
    · cases h
theorem boE_ok {n : Int} {s cs : ByteArray} (h : boE n s cs = 0) : 1 ≤ n ∧ n ≤ 11 ∧ s.size = n.toNat * n.toNat := by
  unfold boE at h
  split at h
  · cases h
  · split at h
    · rename_i h1 h2
      refine ⟨by omega, by omega, ?_⟩
      obtain ⟨m, rfl⟩ : ∃ m : Nat, n = m := ⟨n.toNat, by omega⟩
      have := h2.1
      rw [Int.toNat_natCast]
      rw [← Int.natCast_mul] at this
      omega
    · cases h
theorem enP_x {n a : Nat} : enP n 120 a ↔ Side n true (n - 1) a := by unfold enP endK Side; simp
theorem enP_o {n a : Nat} : enP n 111 a ↔ Side n false (n - 1) a := by unfold enP endK Side; simp
theorem beP_x {n a : Nat} : beP n 120 a ↔ Side n true 0 a := by unfold beP endK Side; simp
theorem beP_o {n a : Nat} : beP n 111 a ↔ Side n false 0 a := by unfold beP endK Side; simp
theorem brO_ex {n : Nat} {bs : List Int} {p : Int} {P : List Nat} (h : WyP n bs p P) (hb : beP n p (headN P)) : (brO n bs p).isSome := by
  obtain ⟨G, hG⟩ := First.ex h hb
  rw [brO_some hG]
  rfl
theorem full_one {n : Nat} {bs : List Int} (hn : 0 < n) (hf : ∀ a, a < n * n → bs.getD a 0 = 120 ∨ bs.getD a 0 = 111) : ((brO n bs 120).isSome ∧ brO n bs 111 = none ∧ winB n bs = 120) ∨ (brO n bs 120 = none ∧ (brO n bs 111).isSome ∧ winB n bs = 111) := by
  have tr : ∀ (x : Bool) P, Bridge n (fun a => bs.getD a 0 = 120) x P ↔ WyP n bs (if x then 120 else 111) P ∧ beP n (if x then 120 else 111) (headN P) := fun x P => by
    cases x with
    | true =>
      constructor
      · rintro ⟨h1, h2⟩
        exact ⟨⟨h1.ne, h1.chain, fun q hq => ⟨(h1.mem q hq).1, by have h := (h1.mem q hq).2; simp only [if_true] at h; exact h⟩, enP_x.2 h1.fin⟩, beP_x.2 h2⟩
      · rintro ⟨h1, h2⟩
        exact ⟨⟨h1.ne, h1.chain, fun q hq => ⟨(h1.mem q hq).1, by simp only [if_true]; exact (h1.mem q hq).2⟩, enP_x.1 h1.fin⟩, beP_x.1 h2⟩
    | false =>
      constructor
      · rintro ⟨h1, h2⟩
        exact ⟨⟨h1.ne, h1.chain, fun q hq => ⟨(h1.mem q hq).1, by
          have h3 : ¬ bs.getD q 0 = 120 := by simpa using (h1.mem q hq).2
          rcases hf q (h1.mem q hq).1 with h4 | h4
          · exact absurd h4 h3
          · exact h4⟩, enP_o.2 h1.fin⟩, beP_o.2 h2⟩
      · rintro ⟨h1, h2⟩
        exact ⟨⟨h1.ne, h1.chain, fun q hq => ⟨(h1.mem q hq).1, by
          have h3 : bs.getD q 0 = 111 := (h1.mem q hq).2
          show ¬ bs.getD q 0 = 120
          rw [h3]; decide⟩, enP_o.1 h1.fin⟩, beP_o.1 h2⟩
  have no : ∀ {p : Int}, (∀ P, WyP n bs p P → ¬ beP n p (headN P)) → brO n bs p = none := fun h => brO_none h
  rcases bridge_one hn (fun a => bs.getD a 0 = 120) with ⟨P, hP⟩ | ⟨P, hP⟩
  · left
    have h1 := (tr true P).1 hP
    have h2 := brO_ex h1.1 h1.2
    have h2 : (brO n bs 120).isSome := h2
    refine ⟨h2, no fun Q hQ hb => bridge_both hn hP ((tr false Q).2 ⟨hQ, hb⟩), ?_⟩
    unfold winB
    rw [if_pos h2]
  · right
    have h1 := (tr false P).1 hP
    have h2 : (brO n bs 111).isSome := brO_ex h1.1 h1.2
    have h3 : brO n bs 120 = none := no fun Q hQ hb => bridge_both hn ((tr true Q).2 ⟨hQ, hb⟩) hP
    refine ⟨h3, h2, ?_⟩
    unfold winB
    rw [h3, if_neg (by simp), if_pos h2]
theorem run_rune_x (w : World) : (convert 21 9 (.int .i32 120)).run Tryd.prog w = .ok (.string ⟨#[120]⟩) w := by kernel_rfl
theorem run_rune_o (w : World) : (convert 21 9 (.int .i32 111)).run Tryd.prog w = .ok (.string ⟨#[111]⟩) w := by kernel_rfl
def strP (p : Int) : ByteArray := ⟨#[UInt8.ofNat p.toNat]⟩
def WinnerPost (n : Int) (s : ByteArray) (w : World) (e : Ending) (w' : World) : Prop :=
  Below w.heap.size w w' ∧ if boE n s xoB = 0 then ∃ G A c, brO n.toNat (bsOf s) (winB n.toNat (bsOf s)) = some G ∧ e = .returned (.tuple #[.string (strP (winB n.toNat (bsOf s))), .slice (some A) G.length c, .int .i64 0]) ∧ Kd.R (Kd.int .i64) 3 w' w.heap.size (fun _ => True) (.slice (some A) G.length c) (ints G)
    else e = .returned (.tuple #[.string ⟨#[]⟩, .slice none 0 0, .int .i64 (boE n s xoB)])
set_option maxHeartbeats 3200000 in
set_option maxRecDepth 100000 in
theorem winner_call (n : Int) (s : ByteArray) (w : World) (hst : Steps w) (hs : s.size ≤ 9223372036854775807) :
    Calls Tryd.prog 24 #[.int .i64 n, .string s] w (WinnerPost n s w) := by
  have HBo := Aside0.mk (boarded_any n s xoB w hs (by decide) (by decide))
  have HS := Aside0.mk hst
  unfold xoB at HBo
  clear hst hs
  by_cases hE : boE n s xoB = 0
  · have hok := boE_ok hE
    have hone := full_one (bs := bsOf s) (n := n.toNat) (by omega) (fun a ha => full_byte hE (by omega))
    have HE := Aside0.mk hE
    have HO := Aside0.mk hone
    clear hE hok hone
    go_enter Tryd.func24, Tryd.ntmps24
    go_wp2_with fail
    refine HBo.out.mono ?_
    rintro e w1 ⟨hb1, h1⟩
    have h1' := h1
    unfold xoB at HE
    rw [if_pos HE.out] at h1
    obtain ⟨g, gb, cb, rfl, hbr, hby, _, _⟩ := h1
    have HB1 := Aside0.mk hb1
    have HBr := Aside0.mk hbr
    clear h1' hb1 hby hbr
    go_wp2_with fail
    refine (winner_any g _ gb cb _ _ (HS.out.later HB1.out) HBr.out).mono ?_
    rintro e w2 ⟨rfl, hb2⟩
    have HB2 := Aside0.mk (below_then HB1.out HB1.out.size hb2)
    have HBr2 := Aside0.mk (HBr.out.later hb2)
    clear hb2
    rcases HO.out with ⟨h1, h2, h3⟩ | ⟨h1, h2, h3⟩
    · obtain ⟨G, hG⟩ := Option.isSome_iff_exists.1 h1
      have hr := run_rune_x
      have HG := Aside0.mk hG
      have HW := Aside0.mk h3
      have HCall := Aside0.mk (bridge_any g _ gb cb _ 120 w2 (HS.out.later HB2.out) HBr2.out)
      rw [h3]
      clear h1 h2 h3 hG HO
      go_wp2_with fail
      refine HCall.out.mono ?_
      rintro e w3 ⟨hb3, h4⟩
      rw [HG.out] at h4
      obtain ⟨A, c, rfl, hR⟩ := h4
      have HB3 := Aside0.mk (below_then HB2.out HB2.out.size hb3)
      have HR := Aside0.mk (Kd.R_lower hR HB2.out.size)
      clear hb3 hR
      go_wp2_with fail
      go_ret3
      refine ⟨HB3.out, ?_⟩
      unfold xoB
      rw [if_pos HE.out]
      exact ⟨G, A, c, by rw [HW.out]; exact HG.out, by rw [HW.out]; rfl, HR.out⟩
    · obtain ⟨G, hG⟩ := Option.isSome_iff_exists.1 h2
      have hr := run_rune_o
      have HG := Aside0.mk hG
      have HW := Aside0.mk h3
      have HCall := Aside0.mk (bridge_any g _ gb cb _ 111 w2 (HS.out.later HB2.out) HBr2.out)
      rw [h3]
      clear h1 h2 h3 hG HO
      go_wp2_with fail
      refine HCall.out.mono ?_
      rintro e w3 ⟨hb3, h4⟩
      rw [HG.out] at h4
      obtain ⟨A, c, rfl, hR⟩ := h4
      have HB3 := Aside0.mk (below_then HB2.out HB2.out.size hb3)
      have HR := Aside0.mk (Kd.R_lower hR HB2.out.size)
      clear hb3 hR
      go_wp2_with fail
      go_ret3
      refine ⟨HB3.out, ?_⟩
      unfold xoB
      rw [if_pos HE.out]
      exact ⟨G, A, c, by rw [HW.out]; exact HG.out, by rw [HW.out]; rfl, HR.out⟩
  · have HE := Aside0.mk hE
    have hne : (boE n s xoB == 0) = false := beq_eq_false_iff_ne.2 hE
    have hne' : (boE n s xoB != 0) = true := bne_iff_ne.2 hE
    unfold xoB at HE hne hne'
    clear hE
    go_enter Tryd.func24, Tryd.ntmps24
    go_wp2_with fail
    refine HBo.out.mono ?_
    rintro e w1 ⟨hb1, h1⟩
    rw [if_neg HE.out] at h1
    subst h1
    have HB1 := Aside0.mk hb1
    clear hb1
    go_wp2_with fail
    go_ret3
    refine ⟨HB1.out, ?_⟩
    unfold xoB
    rw [if_neg HE.out]
    rfl
end Go.Proofs.YtlmgkmmdaecpdaaDoor.Im

namespace Go.Proofs.YtlmgkmmdaecpdaaDoor.Im
open Go.RowKit Go.Proofs.YtlmgkmmdaecpdaaDoorW.PrintWords Go.Proofs.YtlmgkmmdaecpdaaDoorW.PrintLast Go.Proofs.YtlmgkmmdaecpdaaDoorW.PrintMore Go.Proofs.YtlmgkmmdaecpdaaDoor.Mi
set_option linter.unusedVariables false
def cost0 (p c : Int) : Int := if c = p then 0 else if c = 46 then 1 else -1
theorem cost0_le (p c : Int) : cost0 p c ≤ 1 := by unfold cost0; split <;> (try split) <;> omega
abbrev NeedP (n : Nat) (bs : List Int) (p : Int) (d : Nat) : Prop := Need (n * n) (NearN n) (okC bs (cost0 p)) (beP n p) (enP n p) (coC bs (cost0 p)) d
noncomputable def needO (n : Nat) (bs : List Int) (p : Int) : Option Nat := open Classical in if h : ∃ d, NeedP n bs p d then some (Classical.choose h) else none
theorem needO_some {n : Nat} {bs : List Int} {p : Int} {d : Nat} (h : NeedP n bs p d) : needO n bs p = some d := by
  have hex : ∃ d, NeedP n bs p d := ⟨d, h⟩
  unfold needO
  rw [dif_pos hex, (Classical.choose_spec hex).unique h]
theorem needO_none {n : Nat} {bs : List Int} {p : Int} (h : ∀ P, Wy (n * n) (NearN n) (okC bs (cost0 p)) (enP n p) P → ¬ beP n p (headN P)) : needO n bs p = none := by
  unfold needO
  rw [dif_neg]
  rintro ⟨d, hd⟩
  obtain ⟨P, h1, h2, _⟩ := hd.real
  exact h P h1 h2
structure LeastI (n : Nat) (p : Int) (out : Nat → Option Nat) (i : Nat) (b : Option Nat) : Prop where
  no : b = none → ∀ x, x < i → beP n p x → out x = none
  yes : ∀ d, b = some d → (∃ a, a < i ∧ beP n p a ∧ out a = some d) ∧ ∀ x, x < i → beP n p x → ∀ e, out x = some e → d ≤ e
theorem LeastI.start (n : Nat) (p : Int) (out : Nat → Option Nat) : LeastI n p out 0 none := ⟨fun _ x hx => absurd hx (by omega), fun d h => by cases h⟩
theorem LeastI.skip {n : Nat} {p : Int} {out : Nat → Option Nat} {i : Nat} {b : Option Nat} (h : LeastI n p out i b) (hs : beP n p i → ∀ e, out i = some e → ∃ d, b = some d ∧ d ≤ e) : LeastI n p out (i + 1) b where
  no := fun hn x hx hb => by
    rcases Nat.lt_or_ge x i with h1 | h1
    · exact h.no hn x h1 hb
    · obtain rfl : x = i := by omega
      cases ho : out x with
      | none => rfl
      | some e =>
        obtain ⟨d, h2, _⟩ := hs hb e ho
        rw [hn] at h2; cases h2
  yes := fun d hd => by
    obtain ⟨⟨a, h1, h2, h3⟩, h4⟩ := h.yes d hd
    refine ⟨⟨a, by omega, h2, h3⟩, fun x hx hb e he => ?_⟩
    rcases Nat.lt_or_ge x i with h5 | h5
    · exact h4 x h5 hb e he
    · obtain rfl : x = i := by omega
      obtain ⟨d', k1, k2⟩ := hs hb e he
      rw [hd] at k1; cases k1
      exact k2
theorem LeastI.take {n : Nat} {p : Int} {out : Nat → Option Nat} {i d : Nat} {b : Option Nat} (h : LeastI n p out i b) (hb : beP n p i) (hd : out i = some d) (hs : ∀ e, b = some e → d < e) : LeastI n p out (i + 1) (some d) where
  no := fun h => by cases h
  yes := fun d' hd' => by
    cases hd'
    refine ⟨⟨i, by omega, hb, hd⟩, fun x hx hbx e he => ?_⟩
    rcases Nat.lt_or_ge x i with h5 | h5
    · cases hbb : b with
      | none => rw [h.no hbb x h5 hbx] at he; cases he
      | some e' =>
        have := hs e' hbb
        have := (h.yes e' hbb).2 x h5 hbx e he
        omega
    · obtain rfl : x = i := by omega
      rw [hd] at he; cases he
      exact Nat.le_refl _
theorem needs_fin {n : Nat} {bs : List Int} {p : Int} {out : Nat → Option Nat} {b : Option Nat} (hF : FarOf n p bs (cost0 p) out) (h : LeastI n p out (n * n) b) : needO n bs p = b := by
  cases b with
  | none =>
    refine needO_none fun P hP hb => ?_
    have h1 := (hP.mem _ (headN_mem hP.ne)).1
    exact (hF _).2 (h.no rfl _ h1 hb) P hP rfl
  | some d =>
    obtain ⟨⟨a, h1, h2, h3⟩, h4⟩ := h.yes d rfl
    refine needO_some (need_of_least ⟨a, h2, (hF a).1 d h3⟩ fun x e hx he => ?_)
    obtain ⟨P, k1, k2, k3⟩ := he.real
    have hx1 : x < n * n := by rw [← k2]; exact (k1.mem _ (headN_mem k1.ne)).1
    cases ho : out x with
    | none => exact absurd k2 ((hF x).2 ho P k1)
    | some e' =>
      have := h4 x hx1 hx e' ho
      rw [((hF x).1 e' ho).unique he] at this
      exact this
def plB (ps : ByteArray) : Bool := ps.toList == [120] || ps.toList == [111]
theorem needs1_any (gp : Nat) (ps : ByteArray) (p c : Int) (w : World) (hl : 0 < ps.size) (hp0 : bt ps 0 = p) (hp : Blk w gp 9 #[.string ps]) :
    Calls Tryd.prog 47 #[.int .u8 c, .pointer (some ⟨gp, 0, none⟩)] w fun e w' => e = .returned (.int .i64 (cost0 p c)) ∧ Below w.heap.size w w' := by
  have c0 : w.cell? ⟨gp, 0, none⟩ = some (.string ps) := hp.cell 0
  have hb0 : ((ps[0]'hl).toNat : Int) = p := by rw [← hp0]; simp [bt, hl]
  unfold cost0
  by_cases h : c = p
  · have h' : (c == p) = true := beq_iff_eq.2 h
    rw [if_pos h]
    clear h hp0
    go_enter Tryd.func47, Tryd.ntmps47
    go_wp2_with fail
    go_ret
    exact ⟨rfl, Below.refl _ _⟩
  · have h' : (c == p) = false := beq_eq_false_iff_ne.2 h
    rw [if_neg h]
    clear h hp0
    by_cases h2 : c = 46
    · have h2' : (c == 46) = true := beq_iff_eq.2 h2
      rw [if_pos h2]
      clear h2
      go_enter Tryd.func47, Tryd.ntmps47
      go_wp2_with fail
      go_ret
      exact ⟨rfl, Below.refl _ _⟩
    · have h2' : (c == 46) = false := beq_eq_false_iff_ne.2 h2
      rw [if_neg h2]
      clear h2
      go_enter Tryd.func47, Tryd.ntmps47
      go_wp2_with fail
      go_ret
      exact ⟨rfl, Below.refl _ _⟩
theorem cost_needs {gp : Nat} {ps : ByteArray} {p : Int} {w : World} (hl : 0 < ps.size) (hp0 : bt ps 0 = p) (hp : Blk w gp 9 #[.string ps]) : CostC w 47 #[.pointer (some ⟨gp, 0, none⟩)] (cost0 p) :=
  ⟨fun args w => by kernel_rfl, fun c w1 h1 => needs1_any gp ps p c w1 hl hp0 (hp.later h1)⟩
end Go.Proofs.YtlmgkmmdaecpdaaDoor.Im

namespace Go.Proofs.YtlmgkmmdaecpdaaDoor.Im
open Go.RowKit Go.Proofs.YtlmgkmmdaecpdaaDoorW.PrintWords Go.Proofs.YtlmgkmmdaecpdaaDoorW.PrintLast Go.Proofs.YtlmgkmmdaecpdaaDoorW.PrintMore Go.Proofs.YtlmgkmmdaecpdaaDoor.Mi
set_option linter.unusedVariables false
noncomputable def needsR (n : Int) (s ps : ByteArray) : Int × Int :=
  if boE n s xodB = 0 then (if plB ps then (match needO n.toNat (bsOf s) (bt ps 0) with | some d => ((d : Nat), 0) | none => (0, 10)) else (0, 2)) else (0, boE n s xodB)
def NeedsPost (n : Int) (s ps : ByteArray) (w : World) (e : Ending) (w' : World) : Prop := Below w.heap.size w w' ∧ e = .returned (.tuple #[.int .i64 (needsR n s ps).1, .int .i64 (needsR n s ps).2])
theorem ps_of {ps : ByteArray} {l : List UInt8} (h : ps.toList = l) : ps = ⟨l.toArray⟩ := by
  obtain ⟨a⟩ := ps
  rw [ByteArray.toList_mk] at h
  rw [← h]
theorem plB_cases (ps : ByteArray) : (plB ps = true ∧ (ps = ⟨#[120]⟩ ∨ ps = ⟨#[111]⟩)) ∨ (plB ps = false ∧ (ps.toList == [120]) = false ∧ (ps.toList == [111]) = false) := by
  unfold plB
  cases h1 : (ps.toList == [120])
  · cases h2 : (ps.toList == [111])
    · exact .inr ⟨rfl, rfl, rfl⟩
    · exact .inl ⟨rfl, .inr (ps_of (eq_of_beq h2))⟩
  · exact .inl ⟨rfl, .inl (ps_of (eq_of_beq h1))⟩
set_option maxHeartbeats 6400000 in
set_option maxRecDepth 100000 in
theorem needs_good (n : Int) (s ps : ByteArray) (p : Int) (hps : ps = ⟨#[120]⟩ ∧ p = 120 ∨ ps = ⟨#[111]⟩ ∧ p = 111) (hE : boE n s xodB = 0) (w : World) (hst : Steps w) (hs : s.size ≤ 9223372036854775807) :
    Calls Tryd.prog 20 #[.int .i64 n, .string s, .string ps] w (NeedsPost n s ps w) := by
  have hpl : plB ps = true := by rcases hps with ⟨rfl, rfl⟩ | ⟨rfl, rfl⟩ <;> (unfold plB; rw [ByteArray.toList_mk]; rfl)
  have hkey : (ps.toList == [120]) = true ∨ ((ps.toList == [120]) = false ∧ (ps.toList == [111]) = true) := by
    rcases hps with ⟨rfl, rfl⟩ | ⟨rfl, rfl⟩
    · left; rw [ByteArray.toList_mk]; rfl
    · right; rw [ByteArray.toList_mk]; exact ⟨rfl, rfl⟩
  have hp0 : bt ps 0 = p := by rcases hps with ⟨rfl, rfl⟩ | ⟨rfl, rfl⟩ <;> rfl
  have hl : 0 < ps.size := by rcases hps with ⟨rfl, rfl⟩ | ⟨rfl, rfl⟩ <;> decide
  have hb0 : ((ps[0]'hl).toNat : Int) = p := by rw [← hp0]; simp [bt, hl]
  have hR : needsR n s ps = (match needO n.toNat (bsOf s) p with | some d => ((d : Nat), 0) | none => (0, 10)) := by unfold needsR; rw [if_pos hE, hpl, if_pos rfl, hp0]
  have HBo := Aside0.mk (fun w => boarded_any n s xodB w hs (by decide) (by decide))
  have hok := boE_ok hE
  have HS := Aside0.mk hst
  have HE := Aside0.mk hE
  have HRR := Aside0.mk hR
  have HP0 := Aside0.mk hp0
  have HL := Aside0.mk hl
  have l0 : (0 : Int) < (ps.size : Int) := by omega
  unfold xodB at HBo HE
  clear hst hs hE hpl hp0 hR hps
  obtain ⟨m, rfl⟩ : ∃ m : Nat, n = m := ⟨n.toNat, by omega⟩
  rw [Int.toNat_natCast] at *
  obtain ⟨M, hM⟩ : ∃ M, m * m = M := ⟨_, rfl⟩
  have HM := Aside0.mk hM
  have hM1 : 1 ≤ M := by rw [← hM]; exact Nat.mul_pos (by omega) (by omega)
  have hM121 : M ≤ 121 := by rw [← hM]; exact Nat.mul_le_mul (show m ≤ 11 by omega) (show m ≤ 11 by omega)
  clear hM
  rcases hkey with k1 | ⟨k1, k2⟩ <;>
  (go_enter Tryd.func20, Tryd.ntmps20
   go_wp2_with fail
   have hbl : Below w.heap.size w (w.alloc (.cells #[.string ps] 9)) := below_alloc (Below.refl _ _) _
   have HPB := Aside0.mk (Blk.new w 9 #[.string ps])
   refine (HBo.out _).mono ?_
   rintro e w1 ⟨hb1, h1⟩
   rw [if_pos HE.out] at h1
   obtain ⟨g, gb, cb, rfl, hbr, _, _, _⟩ := h1
   rw [Int.toNat_natCast] at hbr
   have HB1 := Aside0.mk (below_then hbl hbl.size hb1)
   have HP1 := Aside0.mk (HPB.out.later hb1)
   have HBr := Aside0.mk hbr
   have hmm1 := hbr.n1
   have hmm11 := hbr.n11
   clear hbl hb1 hbr HPB HBo
   obtain ⟨gp, hgp⟩ : ∃ gp, w.heap.size = gp := ⟨_, rfl⟩
   rw [hgp] at HP1 ⊢
   have cp : w1.cell? ⟨gp, 0, none⟩ = some (.string ps) := HP1.out.cell 0
   have HF := Aside0.mk (far_any g m gb cb (bsOf s) p _ _ _ w1 (HS.out.later HB1.out) HBr.out (cost_needs HL.out HP0.out HP1.out) (cost0_le p))
   go_wp2_with fail
   refine HF.out.mono ?_
   rintro e w2 ⟨out, v, rfl, hR2, hF2, hb2⟩
   have HD := Aside0.mk hF2
   have HB2 := Aside0.mk (below_then HB1.out HB1.out.size hb2)
   have HP2 := Aside0.mk (HP1.out.later hb2)
   have HBr2 := Aside0.mk (HBr.out.later hb2)
   rw [HM.out] at hR2
   have HR2 := Aside0.mk hR2
   clear HF hR2 hF2 hb2 HP1 cp
   obtain ⟨go, co, rfl, hgo, hgl, fc, hfc⟩ := Kd.R_form HR2.out (by rw [rowO_len]; omega)
   rw [rowO_len] at HR2 ⊢
   have HFB := Aside0.mk (show Blk w2 go 3 fc from hfc)
   have HFC : Aside0 (∀ x, x < M → fc[x]? = some (.int .i64 (oi (out x)))) := ⟨fun x hx => by
     obtain ⟨hx1, _⟩ := Kd.R_celln 0 HR2.out (x : Int) (Int.natCast_nonneg x) (Int.ofNat_lt.2 hx)
     rw [Int.toNat_natCast, HFB.out.cell x] at hx1
     rw [← rowO_get out hx]; exact hx1⟩
   clear hgl hfc hgo HR2
   go_wp2_with fail
   go_loopw [11, 40] (fun v11 v40 wr => ∃ (i : Nat) (b : Option Nat), i ≤ M ∧ v40 = .int .i64 (i : Int) ∧ v11 = .int .i64 (oi b) ∧ Aside0 (LeastI m p out i b) ∧ Aside0 (Below w2.heap.size w2 wr)) (fun _ v _ => M - (intOf v).toNat)
   case atStart => exact ⟨0, none, Nat.zero_le _, rfl, rfl, ⟨LeastI.start m p out⟩, ⟨Below.refl _ _⟩⟩
   case round =>
     obtain ⟨i, b, hi, rfl, rfl, HSc, HBq⟩ := hrel
     have cp : wr.cell? ⟨gp, 0, none⟩ = some (.string ps) := (HP2.out.later HBq.out).cell 0
     by_cases him : i < M
     · have ci : wr.cell? ⟨go, i, none⟩ = some (.int .i64 (oi (out i))) := by rw [(HFB.out.later HBq.out).cell i, HFC.out i him]
       have i0 : (0 : Int) ≤ (i : Int) := Int.natCast_nonneg i
       have i1 : (i : Int) < (M : Int) := Int.ofNat_lt.2 him
       have HE2 := Aside0.mk (ends_any g m i _ p wr hmm1 hmm11 (by rw [HM.out]; exact him) (HBr2.out.later HBq.out).hd)
       obtain ⟨lb, hlb⟩ : ∃ lb : Bool, decide (endK m i p = m - 1) = lb := ⟨_, rfl⟩
       rw [hlb] at HE2
       clear hlb
       go_wp2_with fail
       refine HE2.out.mono ?_
       rintro e w3 ⟨rfl, hb3⟩
       have HB3 := Aside0.mk (below_then HBq.out HBq.out.size hb3)
       clear hb3 HE2 ci cp
       by_cases hbe : beP m p i
       · have hd1 : decide (endK m i p = 0) = true := decide_eq_true hbe
         rw [hd1]
         clear hd1
         cases ho : out i with
         | none =>
           have HS2 := Aside0.mk (HSc.out.skip (fun _ e he => by rw [ho] at he; cases he))
           have e : oi none = -1 := rfl
           rw [e]
           clear ho
           generalize hat : oi b = va at *
           have HAT := Aside0.mk hat
           clear hat
           go_wp2_with fail
           go_roundw
           case rel => exact ⟨i + 1, b, him, by go_num, by rw [HAT.out], HS2, HB3⟩
           case measure => simp [intOf]; omega
         | some d =>
           have e : oi (some d) = (d : Int) := rfl
           rw [e]
           cases b with
           | none =>
             have HS2 := Aside0.mk (HSc.out.take hbe ho (fun e h => by cases h))
             have e : oi none = -1 := rfl
             rw [e]
             clear ho hbe
             go_wp2_with fail
             go_roundw
             case rel => exact ⟨i + 1, some d, him, by go_num, rfl, HS2, HB3⟩
             case measure => simp [intOf]; omega
           | some da =>
             have e : oi (some da) = (da : Int) := rfl
             rw [e]
             by_cases hlt : d < da
             · have HS2 := Aside0.mk (HSc.out.take hbe ho (fun e h => by cases h; exact hlt))
               have t1 : decide (d < da) = true := decide_eq_true hlt
               have t2 : decide ((d : Int) < (da : Int)) = true := decide_eq_true (Int.ofNat_lt.2 hlt)
               clear ho hbe hlt
               go_wp2_with fail
               go_roundw
               case rel => exact ⟨i + 1, some d, him, by go_num, rfl, HS2, HB3⟩
               case measure => simp [intOf]; omega
             · have HS2 := Aside0.mk (HSc.out.skip (fun _ e he => by rw [ho] at he; cases he; exact ⟨da, rfl, by omega⟩))
               have t1 : decide (d < da) = false := decide_eq_false hlt
               have t2 : decide ((d : Int) < (da : Int)) = false := decide_eq_false (fun h => hlt (Int.ofNat_lt.1 h))
               clear ho hbe hlt
               go_wp2_with fail
               go_roundw
               case rel => exact ⟨i + 1, some da, him, by go_num, rfl, HS2, HB3⟩
               case measure => simp [intOf]; omega
       · have hd1 : decide (endK m i p = 0) = false := decide_eq_false hbe
         rw [hd1]
         clear hd1
         have HS2 := Aside0.mk (HSc.out.skip (fun h => absurd h hbe))
         generalize hat : oi b = va at *
         have HAT := Aside0.mk hat
         clear hat hbe
         generalize oi (out i) = vo at *
         go_wp2_with fail
         go_roundw
         case rel => exact ⟨i + 1, b, him, by go_num, by rw [HAT.out], HS2, HB3⟩
         case measure => simp [intOf]; omega
     · obtain rfl : i = M := by omega
       have hfin := needs_fin HD.out (show LeastI m p out (m * m) b by rw [HM.out]; exact HSc.out)
       have HBw := Aside0.mk (below_then HB2.out HB2.out.size HBq.out)
       cases b with
       | none =>
         have hr : needsR m s ps = (0, 10) := by rw [HRR.out, hfin]
         have HR := Aside0.mk hr
         have e : oi none = -1 := rfl
         rw [e]
         clear hr hfin cp
         go_wp2_with fail
         go_ret2
         exact ⟨HBw.out, by rw [HR.out]; rfl⟩
       | some d =>
         have hr : needsR m s ps = (((d : Nat) : Int), (0 : Int)) := by rw [HRR.out, hfin]
         have HR := Aside0.mk hr
         have e : oi (some d) = (d : Int) := rfl
         rw [e]
         have z0 : ¬ (d : Int) < 0 := Int.not_lt.2 (Int.natCast_nonneg d)
         clear hr hfin cp
         go_wp2_with fail
         go_ret2
         exact ⟨HBw.out, by rw [HR.out]; rfl⟩)
theorem needs_bad (n : Int) (s ps : ByteArray) (hE : boE n s xodB ≠ 0) (w : World) (hs : s.size ≤ 9223372036854775807) :
    Calls Tryd.prog 20 #[.int .i64 n, .string s, .string ps] w (NeedsPost n s ps w) := by
  have HBo := Aside0.mk (fun w => boarded_any n s xodB w hs (by decide) (by decide))
  have hR : needsR n s ps = (0, boE n s xodB) := by unfold needsR; rw [if_neg hE]
  have hne : (boE n s xodB == 0) = false := beq_eq_false_iff_ne.2 hE
  have hne' : (boE n s xodB != 0) = true := bne_iff_ne.2 hE
  have HE := Aside0.mk hE
  have HR := Aside0.mk hR
  unfold xodB at HBo HE HR hne hne'
  clear hE hR
  go_enter Tryd.func20, Tryd.ntmps20
  go_wp2_with fail
  have hbl : Below w.heap.size w (w.alloc (.cells #[.string ps] 9)) := below_alloc (Below.refl _ _) _
  refine (HBo.out _).mono ?_
  rintro e w1 ⟨hb1, h1⟩
  rw [if_neg HE.out] at h1
  subst h1
  have HB1 := Aside0.mk (below_then hbl hbl.size hb1)
  clear hb1 hbl
  go_wp2_with fail
  go_ret2
  exact ⟨HB1.out, by rw [HR.out]; rfl⟩
theorem needs_not (n : Int) (s ps : ByteArray) (hp : plB ps = false) (k1 : (ps.toList == [120]) = false) (k2 : (ps.toList == [111]) = false) (hE : boE n s xodB = 0) (w : World) (hs : s.size ≤ 9223372036854775807) :
    Calls Tryd.prog 20 #[.int .i64 n, .string s, .string ps] w (NeedsPost n s ps w) := by
  have HBo := Aside0.mk (fun w => boarded_any n s xodB w hs (by decide) (by decide))
  have hR : needsR n s ps = (0, 2) := by unfold needsR; rw [if_pos hE, hp]; rfl
  have HE := Aside0.mk hE
  have HR := Aside0.mk hR
  unfold xodB at HBo HE
  clear hE hR hp
  go_enter Tryd.func20, Tryd.ntmps20
  go_wp2_with fail
  have hbl : Below w.heap.size w (w.alloc (.cells #[.string ps] 9)) := below_alloc (Below.refl _ _) _
  have HPB := Aside0.mk (Blk.new w 9 #[.string ps])
  refine (HBo.out _).mono ?_
  rintro e w1 ⟨hb1, h1⟩
  rw [if_pos HE.out] at h1
  obtain ⟨g, gb, cb, rfl, _, _, _, _⟩ := h1
  have HB1 := Aside0.mk (below_then hbl hbl.size hb1)
  have cp : w1.cell? ⟨w.heap.size, 0, none⟩ = some (.string ps) := (HPB.out.later hb1).cell 0
  clear hb1 hbl HPB
  obtain ⟨gp, hgp⟩ : ∃ gp, w.heap.size = gp := ⟨_, rfl⟩
  rw [hgp] at cp ⊢
  go_wp2_with fail
  go_ret2
  exact ⟨HB1.out, by rw [HR.out]; rfl⟩
theorem needs_call (n : Int) (s ps : ByteArray) (w : World) (hst : Steps w) (hs : s.size ≤ 9223372036854775807) :
    Calls Tryd.prog 20 #[.int .i64 n, .string s, .string ps] w (NeedsPost n s ps w) := by
  by_cases hE : boE n s xodB = 0
  · rcases plB_cases ps with ⟨h1, h2⟩ | ⟨h1, h2, h3⟩
    · rcases h2 with h2 | h2
      · exact needs_good n s ps 120 (.inl ⟨h2, rfl⟩) hE w hst hs
      · exact needs_good n s ps 111 (.inr ⟨h2, rfl⟩) hE w hst hs
    · exact needs_not n s ps h1 h2 h3 hE w hs
  · exact needs_bad n s ps hE w hs
end Go.Proofs.YtlmgkmmdaecpdaaDoor.Im

namespace Go.Proofs.YtlmgkmmdaecpdaaDoor.Im
open Go.RowKit Go.Proofs.YtlmgkmmdaecpdaaDoorW.PrintWords Go.Proofs.YtlmgkmmdaecpdaaDoorW.PrintLast Go.Proofs.YtlmgkmmdaecpdaaDoorW.PrintMore Go.Proofs.YtlmgkmmdaecpdaaDoor.Mi
set_option linter.unusedVariables false
theorem wy_closed {m : Nat} {nb : Nat → Nat → Prop} {ok en : Nat → Prop} (R : Nat → Prop) (h2 : ∀ a, R a → ∀ b, b < m → nb a b → ok b → R b) (h3 : ∀ a, R a → ¬ en a) : ∀ P, Wy m nb ok en P → ¬ R (headN P)
  | [], h => absurd rfl h.ne
  | [p], h => fun hr => h3 p hr h.fin
  | p :: q :: t, h => fun hr => by
    have hq := h.mem q (List.mem_cons_of_mem _ List.mem_cons_self)
    refine wy_closed R h2 h3 (q :: t) ⟨by simp, h.chain.2, fun x hx => h.mem x (List.mem_cons_of_mem _ hx), h.fin⟩ ?_
    exact h2 p hr q hq.1 h.chain.1 hq.2
theorem brO_closed {n : Nat} {bs : List Int} {p : Int} (R : List Nat) (h1 : ∀ a, a < n * n → okP bs p a → beP n p a → a ∈ R) (h2 : ∀ a ∈ R, ∀ b, b < n * n → NearN n a b → okP bs p b → b ∈ R) (h3 : ∀ a ∈ R, ¬ enP n p a) : brO n bs p = none :=
  brO_none fun P hP hb => wy_closed (fun a => a ∈ R) h2 h3 P hP (by
    have : headN P ∈ P := by
      cases P with
      | nil => exact absurd rfl hP.ne
      | cons a t => exact List.mem_cons_self
    exact h1 _ (hP.mem _ this).1 (hP.mem _ this).2 hb)
theorem al_ox : brO 2 [120, 111, 111, 120] 120 = none := brO_closed [0] (by decide) (by decide) (by decide)
end Go.Proofs.YtlmgkmmdaecpdaaDoor.Im

namespace Go.Proofs.YtlmgkmmdaecpdaaDoor.Im
open Go.RowKit Go.Proofs.YtlmgkmmdaecpdaaDoorW.PrintWords Go.Proofs.YtlmgkmmdaecpdaaDoorW.PrintLast Go.Proofs.YtlmgkmmdaecpdaaDoorW.PrintMore Go.Proofs.YtlmgkmmdaecpdaaDoor.Mi
set_option linter.unusedVariables false
set_option linter.unusedSimpArgs false
def Owns (w : World) (mb m : Nat) (D : DataW Unit) : Prop := w.ownsMap Tryd.prog 9 (plainElem Tryd.prog 5) mb m D
theorem Owns.blk {w w' : World} {mb m : Nat} {D : DataW Unit} (h : Owns w mb m D) (e : w'.heap[mb]? = w.heap[mb]?) : Owns w' mb m D := by
  obtain ⟨es, clock, h1, h2⟩ := h
  exact ⟨es, clock, e.trans h1, h2⟩
theorem Owns.lt {w : World} {mb m : Nat} {D : DataW Unit} (h : Owns w mb m D) : mb < w.heap.size := World.ownsMap.lt h
def tP : Nat → Nat
  | 0 => 0
  | k + 1 => tN k
theorem tN_tP (k : Nat) : tN k = 1 + 121 * tP k := by cases k <;> rfl
def prW (gb mb : Nat) (i : Nat) : Prop := i ≠ gb ∧ i ≠ mb
structure WinsPre (n g gb cb mb m : Nat) (l : List UInt8) (w : World) (D : DataW Unit) : Prop where
  st : Steps w
  hd : Blk w g 89 #[.int .i64 n, .slice (some ⟨gb, 0, none⟩) (n * n) cb]
  byt : Byts w gb (n * n) (bl l)
  len : l.length = n * n
  n1 : 1 ≤ n
  n11 : n ≤ 11
  own : Owns w mb m D
  kn : Known n D
  bud : m + tN (l.count 46) ≤ 9223372036854775807
  cnt : CntOk l
  ng : g ≠ gb
  ngm : g ≠ mb
  nbm : gb ≠ mb
  nb0 : 0 ≠ gb
  nm0 : 0 ≠ mb
theorem WinsPre.brd {n g gb cb mb m : Nat} {l : List UInt8} {w : World} {D : DataW Unit} (h : WinsPre n g gb cb mb m l w D) : Brd w g n gb cb (bl l) :=
  ⟨h.hd, C_of_byts h.byt (by rw [bl_len, h.len]) (by have := Nat.mul_le_mul h.n11 h.n11; omega), by rw [bl_len, h.len], h.n1, h.n11⟩
theorem WinsPre.later {n g gb cb mb m : Nat} {l : List UInt8} {w w' : World} {D : DataW Unit} (h : WinsPre n g gb cb mb m l w D) (hb : Below w.heap.size w w') : WinsPre n g gb cb mb m l w' D :=
  ⟨h.st.later hb, h.hd.later hb, h.byt.later hb, h.len, h.n1, h.n11, h.own.blk (hb.block _ h.own.lt), h.kn, h.bud, h.cnt, h.ng, h.ngm, h.nbm, h.nb0, h.nm0⟩
def WinsPost (n gb mb m : Nat) (l : List UInt8) (w : World) (e : Ending) (w' : World) : Prop :=
  e = .returned (.int .u8 (gv n l)) ∧ Keep (prW gb mb) w w' ∧ Byts w' gb (n * n) (bl l) ∧ ∃ D', Owns w' mb (m + tN (l.count 46)) D' ∧ Known n D'
def WinsAt (n g gb cb mb : Nat) (k : Nat) : Prop := ∀ (l : List UInt8) (m : Nat) (w : World) (D : DataW Unit) (p : Int), l.count 46 = k → ((nxB l).toNat : Int) = p → WinsPre n g gb cb mb m l w D →
  Calls Tryd.prog 44 #[.pointer (some ⟨g, 0, none⟩), .int .u8 p, .map (some mb)] w (WinsPost n gb mb m l w)
structure WinsI (n gb mb m : Nat) (l : List UInt8) (w : World) (D : DataW Unit) (wr : World) : Prop where
  keep : Keep (prW gb mb) w wr
  byt : Byts wr gb (n * n) (bl l)
  own : Owns wr mb m D
  kn : Known n D
theorem set_back {l : List UInt8} {i : Nat} (h : l[i]? = some 46) (a : UInt8) : (bl (l.set i a)).set i 46 = bl l := by
  rw [show (46 : Int) = ((46 : UInt8).toNat : Int) from rfl, ← bl_set, List.set_set]
  congr 1
  apply List.ext_getElem?
  intro j
  rw [List.getElem?_set]
  by_cases e : i = j
  · subst e
    rw [if_pos rfl]
    split
    · exact h.symm
    · rename_i hh
      rw [List.getElem?_eq_none (by omega)]
  · rw [if_neg e]
theorem WinsI.into {n g gb cb mb m m' : Nat} {l : List UInt8} {w wr : World} {D D' : DataW Unit} (h : WinsPre n g gb cb mb m l w D) (hi : WinsI n gb mb m' l w D' wr) {i : Nat} (hl : l[i]? = some 46) (hin : i < n * n) (hb : m' + tN ((l.set i (nxB l)).count 46) ≤ 9223372036854775807) :
    WinsPre n g gb cb mb m' (l.set i (nxB l)) (wr.setCell ⟨gb, i, none⟩ (.int .u8 ((nxB l).toNat : Int))) D' := by
  have hk := hi.keep.trans (Keep.set_ (p := prW gb mb) wr gb i (.int .u8 ((nxB l).toNat : Int)) (fun h => h.1 rfl))
  refine ⟨hk.blk h.st ⟨h.nb0, h.nm0⟩, hk.blk h.hd ⟨h.ng, h.ngm⟩, ?_, by rw [List.length_set]; exact h.len, h.n1, h.n11, ?_, hi.kn, hb, (cnt_set h.cnt hl).1, h.ng, h.ngm, h.nbm, h.nb0, h.nm0⟩
  · rw [bl_set]
    exact hi.byt.set_ (by rw [bl_len, h.len]) hin _
  · exact hi.own.blk (Below.heap_setCell wr _ _ mb (fun e => h.nbm e.symm))
theorem WinsI.back {n g gb cb mb m m' : Nat} {l : List UInt8} {w wr w2 : World} {D D' : DataW Unit} (h : WinsPre n g gb cb mb m l w D) (hi : WinsI n gb mb m' l w D' wr) {i : Nat} (hl : l[i]? = some 46) (hin : i < n * n) {e : Ending}
    (hp : WinsPost n gb mb m' (l.set i (nxB l)) (wr.setCell ⟨gb, i, none⟩ (.int .u8 ((nxB l).toNat : Int))) e w2) :
    e = .returned (.int .u8 (gv n (l.set i (nxB l)))) ∧ Keep (prW gb mb) w w2 ∧ Byts w2 gb (n * n) (bl (l.set i (nxB l))) ∧ ∃ D2, WinsI n gb mb (m' + tN ((l.set i (nxB l)).count 46)) l w D2 (w2.setCell ⟨gb, i, none⟩ (.int .u8 46)) := by
  obtain ⟨he, hk2, hb2, D2, ho2, hn2⟩ := hp
  have hk := (hi.keep.trans (Keep.set_ (p := prW gb mb) wr gb i (.int .u8 ((nxB l).toNat : Int)) (fun h => h.1 rfl))).trans hk2
  refine ⟨he, hk, hb2, D2, ⟨hk.trans (Keep.set_ _ _ _ _ (fun h => h.1 rfl)), ?_, ho2.blk (Below.heap_setCell w2 _ _ mb (fun e => h.nbm e.symm)), hn2⟩⟩
  have := hb2.set_ (by rw [bl_len, List.length_set, h.len]) hin 46
  rw [set_back hl] at this
  exact this
theorem zeroU (w : World) : (zeroValue 5).run Tryd.prog w = .ok (.int .u8 0) w := by kernel_rfl
theorem wf_gv (n : Nat) (l : List UInt8) : (Lit.int .u8 (gv n l)).wf = true := by
  rcases gv_cases n l with e | e <;> rw [e] <;> decide
end Go.Proofs.YtlmgkmmdaecpdaaDoor.Im

namespace Go.Proofs.YtlmgkmmdaecpdaaDoor.Im
open Go.RowKit Go.Proofs.YtlmgkmmdaecpdaaDoorW.PrintWords Go.Proofs.YtlmgkmmdaecpdaaDoorW.PrintLast Go.Proofs.YtlmgkmmdaecpdaaDoorW.PrintMore Go.Proofs.YtlmgkmmdaecpdaaDoor.Mi
set_option linter.unusedVariables false
set_option linter.unusedSimpArgs false
theorem atKey_val {n : Nat} {D : DataW Unit} {l : List UInt8} {c : Int} (hk : Known n D) (hh : Maps.has D (.string l) = true) (hat : D.atKey (.string l) (.lit (.int .u8 0)) = .lit (.int .u8 c)) : c = gv n l := by
  have := hk.2 l hh
  rw [hat] at this
  cases this
  rfl
theorem wins_end {n g gb cb mb m m' : Nat} {l : List UInt8} {w w1 wr w2 : World} {D D' : DataW Unit} (h : WinsPre n g gb cb mb m l w D) (hb : Below w.heap.size w w1) (hi : WinsI n gb mb m' l w1 D' wr) (hm : m' + 1 ≤ m + tN (l.count 46))
    (ho : w2.ownsMap Tryd.prog 9 (plainElem Tryd.prog 5) mb (m' + 1) (D'.put (.string l) (.lit (.int .u8 (gv n l))))) (hg : wr.grownBy w2 (some mb)) : WinsPost n gb mb m l w (.returned (.int .u8 (gv n l))) w2 := by
  have hk : Keep (prW gb mb) wr w2 := Keep.of_grown hg (fun h => h.2 rfl)
  exact ⟨rfl, ((Keep.of_below hb).trans hi.keep).trans hk, hi.byt.blk (hg.block _ hi.byt.lt (fun e => h.nbm (by cases e; rfl))), _, ho.mono hm, hi.kn.put l⟩
set_option maxHeartbeats 6400000 in
set_option maxRecDepth 100000 in
theorem wins_at (n g gb cb mb k : Nat) (ih : ∀ k', k' + 1 = k → WinsAt n g gb cb mb k') : ∀ (l : List UInt8) (m : Nat) (w : World) (D : DataW Unit) (p q : Int), l.count 46 = k → ((nxB l).toNat : Int) = p → (p = 120 ∧ q = 111 ∨ p = 111 ∧ q = 120) → WinsPre n g gb cb mb m l w D →
    Calls Tryd.prog 44 #[.pointer (some ⟨g, 0, none⟩), .int .u8 p, .map (some mb)] w (WinsPost n gb mb m l w) := by
  intro l m w D p q hc hp hpq hpre
  have HPre := Aside0.mk hpre
  have IH := Aside0.mk ih
  have HC := Aside0.mk hc
  have HP := Aside0.mk hp
  obtain ⟨M, hM⟩ : ∃ M, n * n = M := ⟨_, rfl⟩
  have HM := Aside0.mk hM
  have hM121 : M ≤ 121 := by rw [← hM]; exact Nat.mul_le_mul hpre.n11 hpre.n11
  have cg0 : w.cell? ⟨g, 1, none⟩ = some (.slice (some ⟨gb, 0, none⟩) M cb) := by have := hpre.hd.cell 1; rw [hM] at this; exact this
  obtain ⟨s, hs, hsz⟩ : ∃ s : ByteArray, s.data.toList = l ∧ s.size = M := ⟨⟨l.toArray⟩, rfl, by show l.length = M; rw [hpre.len, hM]⟩
  have hse : (⟨l.toArray⟩ : ByteArray) = s := by
    apply ByteArray.ext
    rw [← hs]
  have hby := hpre.byt.bytes hpre.len
  rw [hse] at hby
  have hcv : (convert 60 9 (.slice (some ⟨gb, 0, none⟩) M cb)).run Tryd.prog w = .ok (.string s) w := by
    have := Lib.run_convert_whole (P := Tryd.prog) w 60 5 9 Tryd.underlying60 Tryd.underlying5 Tryd.underlying9 gb 0 s hby cb
    rw [hsz] at this
    exact this
  have hkey : keyOf Tryd.prog 9 (.string s) = some (.string l) := by
    have := WideMaps.keyOf_string_mk (P := Tryd.prog) Tryd.underlying9 (s := s) (by rw [hsz]; exact Nat.le_trans hM121 (by decide))
    rw [hs] at this
    exact this
  have K := Maps.string_keyed (P := Tryd.prog) (k := 9) Tryd.underlying9
  have hkn := hpre.kn
  have hown : w.ownsMap Tryd.prog 9 (plainElem Tryd.prog 5) mb m D := hpre.own
  clear hse hby hs hsz hM hpre ih hc hp
  cases hhas : Maps.has D (.string l) with
  | true =>
    have HV := Aside0.mk (fun c h => atKey_val (c := c) hkn hhas h)
    clear hkn
    go_enter Tryd.func44, Tryd.ntmps44
    go_wp2_with (at_lookup; refine wpList_lookup_own_ok_int _ rfl _ _ 58 rfl 9 5 .u8 K Tryd.underlying58 Tryd.underlying5 (zeroU _) mb m D rfl hown _ _ rfl hkey ?_; intro c hat hwc; rw [hhas]; have HCC := Aside0.mk (HV.out c hat); clear hat)
    go_ret
    rw [HCC.out]
    exact ⟨rfl, Keep.refl _ _, HPre.out.byt, D, hown.mono (Nat.le_add_right _ _), HPre.out.kn⟩
  | false =>
    have HB0 := HPre.out.brd
    have HW := Aside0.mk (winner_any g n gb cb (bl l) w HPre.out.st HB0)
    have hwl : (Lit.int .u8 (gv n l)).wf = true := wf_gv n l
    have hval := fun (v : Int) (h : (Lit.int .u8 v).wf = true) => plainElem_int (H := Unit) (P := Tryd.prog) Tryd.underlying5 h
    have HBud := Aside0.mk HPre.out.bud
    have htp := tN_tP (l.count 46)
    clear HB0 hkn
    by_cases h0 : winB n (bl l) = 0
    · have hz : (winB n (bl l) == 0) = true := by rw [h0]; rfl
      have H0 := Aside0.mk h0
      rw [h0] at HW
      clear hz h0
      have HPQ := Aside0.mk hpq
      rcases hpq with ⟨rfl, rfl⟩ | ⟨rfl, rfl⟩
      · go_enter Tryd.func44, Tryd.ntmps44
        go_wp2_with (at_lookup; refine wpList_lookup_own_ok_int _ rfl _ _ 58 rfl 9 5 .u8 K Tryd.underlying58 Tryd.underlying5 (zeroU _) mb m D rfl hown _ _ rfl hkey ?_; intro c hat hwc; rw [hhas]; clear hat)
        refine HW.out.mono ?_
        rintro e w1 ⟨rfl, hb1⟩
        have HB1 := Aside0.mk hb1
        have HPre1 := Aside0.mk (HPre.out.later hb1)
        have cg1 : w1.cell? ⟨g, 1, none⟩ = some (.slice (some ⟨gb, 0, none⟩) M cb) := (hb1.cell (World.block_lt_of_cell? w _ cg0)).trans cg0
        clear hb1 HW cg0 hcv hown
        go_wp2_with fail
        have hI0 : WinsI n gb mb m l w1 D w1 := ⟨Keep.refl _ _, HPre1.out.byt, HPre1.out.own, HPre1.out.kn⟩
        have HI0 := Aside0.mk hI0
        clear hI0
        go_loopw [11, 40] (fun v11 v40 wr => ∃ (i : Nat) (D' : DataW Unit), i ≤ M ∧ v40 = .int .i64 (i : Int) ∧ v11 = .int .u8 111 ∧ Aside0 (∀ j : Nat, j < i → l[j]? = some 46 → gv n (l.set j (nxB l)) ≠ 120) ∧ Aside0 (WinsI n gb mb (m + i * tP k) l w1 D' wr)) (fun _ v _ => M - (intOf v).toNat)
        case atStart => exact ⟨0, D, Nat.zero_le _, rfl, rfl, ⟨fun j hj => absurd hj (Nat.not_lt_zero j)⟩, ⟨by rw [Nat.zero_mul]; exact HI0.out⟩⟩
        case round =>
          clear HI0
          obtain ⟨i, D', hi, rfl, rfl, HN, HI⟩ := hrel
          have hbnd : m + i * tP k + 1 ≤ m + tN (l.count 46) := by
            have h1 := htp
            rw [HC.out] at h1 ⊢
            have h2 := Nat.mul_le_mul_right (tP k) (Nat.le_trans hi hM121)
            omega
          have HBnd := Aside0.mk hbnd
          by_cases hiM : i < M
          · have hlt : i < l.length := by rw [HPre.out.len, HM.out]; exact hiM
            obtain ⟨b, hb⟩ : ∃ b, l[i]? = some b := ⟨_, List.getElem?_eq_getElem hlt⟩
            have cb0 : wr.cell? ⟨gb, i, none⟩ = some (.int .u8 (b.toNat : Int)) := by
              have := HI.out.byt.cell (i := i) (by rw [HM.out]; exact hiM)
              rw [bl_get hb] at this
              exact this
            have i0 : (0 : Int) ≤ (i : Int) := Int.natCast_nonneg i
            have i1 : (i : Int) < (M : Int) := Int.ofNat_lt.2 hiM
            by_cases hd : b = 46
            · subst hd
              obtain ⟨k', hk'⟩ : ∃ k', k' + 1 = k := ⟨(l.set i (nxB l)).count 46, by rw [count_dots hb (nxB l) (nx_ne l)]; exact HC.out⟩
              have hck : (l.set i (nxB l)).count 46 = k' := by have := count_dots hb (nxB l) (nx_ne l); have := HC.out; omega
              have htk : tP k = tN k' := by rw [← hk']; rfl
              have hin : i < n * n := by rw [HM.out]; exact hiM
              have hbk : m + i * tP k + tN ((l.set i (nxB l)).count 46) ≤ 9223372036854775807 := by
                rw [hck, ← htk]
                have h1 := htp
                have h3 := HBud.out
                rw [HC.out] at h1 h3
                have h2 := Nat.mul_le_mul_right (tP k) (show i + 1 ≤ 121 by omega)
                rw [Nat.add_mul, Nat.one_mul] at h2
                omega
              have hinto := HI.out.into HPre1.out hb hin hbk
              have hnx : ((nxB (l.set i (nxB l))).toNat : Int) = 111 := by
                rw [(cnt_set HPre.out.cnt hb).2, ← nx_num, HP.out]; rfl
              have hcall := IH.out k' hk' (l.set i (nxB l)) (m + i * tP k) _ D' 111 hck hnx hinto
              rw [HP.out] at hcall
              have HCall := Aside0.mk hcall
              have HBack := Aside0.mk (fun e w2 h => HI.out.back (e := e) (w2 := w2) HPre1.out hb hin h)
              rw [HP.out, hck, ← htk] at HBack
              have cgr : wr.cell? ⟨g, 1, none⟩ = some (.slice (some ⟨gb, 0, none⟩) M cb) := by
                have := (HI.out.keep.blk HPre1.out.hd ⟨HPre.out.ng, HPre.out.ngm⟩).cell 1
                rw [HM.out] at this
                exact this
              have fr0 := HI.out.byt.frozen hin
              clear hinto hcall hbk hnx hck htk hlt hk'
              have hown_ : (bl (l.set i (nxB l))).getD i 0 = 120 := by
                have h2 : (l.set i (nxB l))[i]? = some (nxB l) := by rw [List.getElem?_set_self (by rw [HPre.out.len]; exact hin)]
                rw [bl_get h2, HP.out]
              have HO := Aside0.mk hown_
              have hm1 : m + i * tP k + tP k + 1 ≤ m + tN (l.count 46) := by
                have h1 := htp
                rw [HC.out] at h1 ⊢
                have h2 := Nat.mul_le_mul_right (tP k) (show i + 1 ≤ 121 by omega)
                rw [Nat.add_mul, Nat.one_mul] at h2
                omega
              have HM1 := Aside0.mk hm1
              have hlm : m + i * tP k + tP k < maxLen := by
                have h3 := HBud.out
                have : maxLen = 9223372036854775807 := rfl
                omega
              have hin0 := Aside0.mk hin
              clear hown_ hm1 hbnd htp
              by_cases hw : gv n (l.set i (nxB l)) = 120
              · have hgv := gv_move H0.out hb (hw.trans HP.out.symm)
                rw [HP.out] at hgv
                have HGV := Aside0.mk hgv
                have HWW := Aside0.mk hw
                have hv1 := hval 120 (by decide)
                clear hw hgv hb hin
                go_wp2_with fail
                refine HCall.out.mono ?_
                intro e w2 hp2
                obtain ⟨rfl, hk2, hb2, D2, hI2⟩ := HBack.out e w2 hp2
                have cg2 : w2.cell? ⟨g, 1, none⟩ = some (.slice (some ⟨gb, 0, none⟩) M cb) := by
                  have := (hk2.blk HPre1.out.hd ⟨HPre.out.ng, HPre.out.ngm⟩).cell 1
                  rw [HM.out] at this
                  exact this
                have cb2 := hb2.cell hin0.out
                have fr2 := hb2.frozen hin0.out
                have HI2 := Aside0.mk hI2
                have hown2 : (w2.setCell ⟨gb, i, none⟩ (.int .u8 46)).ownsMap Tryd.prog 9 (plainElem Tryd.prog 5) mb (m + i * tP k + tP k) D2 := hI2.own
                rw [HWW.out]
                rw [HO.out] at cb2
                clear hp2 hk2 hb2 hI2 HCall HBack cgr cb0 fr0 HI
                go_wp2_with (at_mapUpdate; refine wpList_mapUpdate_own _ rfl _ _ _ 58 rfl 9 5 K Tryd.underlying58 _ mb (m + i * tP k + tP k) D2 rfl hown2 hlm _ _ (.string l) rfl rfl hkey (.lit (.int .u8 120)) [] hv1 ?_; intro w3 hown3 hg3; have HW3 := Aside0.mk hown3; have HG3 := Aside0.mk hg3; clear hown3 hg3)
                go_ret
                have hfin := wins_end HPre.out HB1.out HI2.out HM1.out (by rw [HGV.out]; exact HW3.out) HG3.out
                rw [HGV.out] at hfin
                exact hfin
              · have HN2 : Aside0 (∀ j : Nat, j < i + 1 → l[j]? = some 46 → gv n (l.set j (nxB l)) ≠ 120) := ⟨fun j hj h => by
                  rcases Nat.lt_or_ge j i with h2 | h2
                  · exact HN.out j h2 h
                  · obtain rfl : j = i := by omega
                    exact hw⟩
                have hx : (gv n (l.set i (nxB l)) == 120) = false := beq_eq_false_iff_ne.2 hw
                clear hw hb hin
                go_wp2_with fail
                refine HCall.out.mono ?_
                intro e w2 hp2
                obtain ⟨rfl, hk2, hb2, D2, hI2⟩ := HBack.out e w2 hp2
                have cg2 : w2.cell? ⟨g, 1, none⟩ = some (.slice (some ⟨gb, 0, none⟩) M cb) := by
                  have := (hk2.blk HPre1.out.hd ⟨HPre.out.ng, HPre.out.ngm⟩).cell 1
                  rw [HM.out] at this
                  exact this
                have cb2 := hb2.cell hin0.out
                have fr2 := hb2.frozen hin0.out
                have HI2 := Aside0.mk hI2
                rw [HO.out] at cb2
                have HN3 := HN2
                clear hp2 hk2 hb2 hI2 HCall HBack cgr cb0 fr0 HI HN2
                generalize gv n (l.set i (nxB l)) = xv at *
                go_wp2_with fail
                go_roundw
                case rel => exact ⟨i + 1, D2, hiM, by go_num, rfl, HN3, ⟨by rw [Nat.add_mul, Nat.one_mul, ← Nat.add_assoc]; exact HI2.out⟩⟩
                case measure => simp [intOf]; omega
            · have hne : ((b.toNat : Int) == 46) = false := by
                have : b.toNat ≠ 46 := fun e => hd (UInt8.toNat_inj.1 e)
                exact beq_eq_false_iff_ne.2 (by omega)
              have hne' : ((b.toNat : Int) != 46) = true := by rw [bne, hne]; rfl
              have HN2 : Aside0 (∀ j : Nat, j < i + 1 → l[j]? = some 46 → gv n (l.set j (nxB l)) ≠ 120) := ⟨fun j hj h => by
                rcases Nat.lt_or_ge j i with h2 | h2
                · exact HN.out j h2 h
                · obtain rfl : j = i := by omega
                  rw [hb] at h
                  exact absurd (Option.some.inj h) hd⟩
              have HI2 : Aside0 (WinsI n gb mb (m + (i + 1) * tP k) l w1 D' wr) := ⟨⟨HI.out.keep, HI.out.byt, World.ownsMap.mono HI.out.own (by rw [Nat.add_mul]; omega), HI.out.kn⟩⟩
              clear hb hd hlt hbnd
              generalize (b.toNat : Int) = bz at *
              go_wp2_with fail
              go_roundw
              case rel => exact ⟨i + 1, D', hiM, by go_num, rfl, HN2, HI2⟩
              case measure => simp [intOf]; omega
          · obtain hiE : i = M := by omega
            have hgv : gv n l = 111 := by
              rw [gv_no H0.out (fun j hj => by
                rw [HP.out]
                refine HN.out j ?_ hj
                have h2 := HPre.out.len
                rw [HM.out] at h2
                rcases Nat.lt_or_ge j l.length with h' | h'
                · omega
                · rw [List.getElem?_eq_none h'] at hj; cases hj), HP.out]
              rfl
            have HGV := Aside0.mk hgv
            have hv1 := hval 111 (by decide)
            have hown2 : wr.ownsMap Tryd.prog 9 (plainElem Tryd.prog 5) mb (m + i * tP k) D' := HI.out.own
            have hlm : m + i * tP k < maxLen := by
              have h3 := HBud.out
              have : maxLen = 9223372036854775807 := rfl
              omega
            clear hgv hbnd htp
            go_wp2_with (at_mapUpdate; refine wpList_mapUpdate_own _ rfl _ _ _ 58 rfl 9 5 K Tryd.underlying58 _ mb (m + i * tP k) D' rfl hown2 hlm _ _ (.string l) rfl rfl hkey (.lit (.int .u8 111)) [] hv1 ?_; intro w3 hown3 hg3; have HW3 := Aside0.mk hown3; have HG3 := Aside0.mk hg3; clear hown3 hg3)
            go_ret
            have hfin := wins_end HPre.out HB1.out HI.out HBnd.out (by rw [HGV.out]; exact HW3.out) HG3.out
            rw [HGV.out] at hfin
            exact hfin

      · go_enter Tryd.func44, Tryd.ntmps44
        go_wp2_with (at_lookup; refine wpList_lookup_own_ok_int _ rfl _ _ 58 rfl 9 5 .u8 K Tryd.underlying58 Tryd.underlying5 (zeroU _) mb m D rfl hown _ _ rfl hkey ?_; intro c hat hwc; rw [hhas]; clear hat)
        refine HW.out.mono ?_
        rintro e w1 ⟨rfl, hb1⟩
        have HB1 := Aside0.mk hb1
        have HPre1 := Aside0.mk (HPre.out.later hb1)
        have cg1 : w1.cell? ⟨g, 1, none⟩ = some (.slice (some ⟨gb, 0, none⟩) M cb) := (hb1.cell (World.block_lt_of_cell? w _ cg0)).trans cg0
        clear hb1 HW cg0 hcv hown
        go_wp2_with fail
        have hI0 : WinsI n gb mb m l w1 D w1 := ⟨Keep.refl _ _, HPre1.out.byt, HPre1.out.own, HPre1.out.kn⟩
        have HI0 := Aside0.mk hI0
        clear hI0
        go_loopw [11, 40] (fun v11 v40 wr => ∃ (i : Nat) (D' : DataW Unit), i ≤ M ∧ v40 = .int .i64 (i : Int) ∧ v11 = .int .u8 120 ∧ Aside0 (∀ j : Nat, j < i → l[j]? = some 46 → gv n (l.set j (nxB l)) ≠ 111) ∧ Aside0 (WinsI n gb mb (m + i * tP k) l w1 D' wr)) (fun _ v _ => M - (intOf v).toNat)
        case atStart => exact ⟨0, D, Nat.zero_le _, rfl, rfl, ⟨fun j hj => absurd hj (Nat.not_lt_zero j)⟩, ⟨by rw [Nat.zero_mul]; exact HI0.out⟩⟩
        case round =>
          clear HI0
          obtain ⟨i, D', hi, rfl, rfl, HN, HI⟩ := hrel
          have hbnd : m + i * tP k + 1 ≤ m + tN (l.count 46) := by
            have h1 := htp
            rw [HC.out] at h1 ⊢
            have h2 := Nat.mul_le_mul_right (tP k) (Nat.le_trans hi hM121)
            omega
          have HBnd := Aside0.mk hbnd
          by_cases hiM : i < M
          · have hlt : i < l.length := by rw [HPre.out.len, HM.out]; exact hiM
            obtain ⟨b, hb⟩ : ∃ b, l[i]? = some b := ⟨_, List.getElem?_eq_getElem hlt⟩
            have cb0 : wr.cell? ⟨gb, i, none⟩ = some (.int .u8 (b.toNat : Int)) := by
              have := HI.out.byt.cell (i := i) (by rw [HM.out]; exact hiM)
              rw [bl_get hb] at this
              exact this
            have i0 : (0 : Int) ≤ (i : Int) := Int.natCast_nonneg i
            have i1 : (i : Int) < (M : Int) := Int.ofNat_lt.2 hiM
            by_cases hd : b = 46
            · subst hd
              obtain ⟨k', hk'⟩ : ∃ k', k' + 1 = k := ⟨(l.set i (nxB l)).count 46, by rw [count_dots hb (nxB l) (nx_ne l)]; exact HC.out⟩
              have hck : (l.set i (nxB l)).count 46 = k' := by have := count_dots hb (nxB l) (nx_ne l); have := HC.out; omega
              have htk : tP k = tN k' := by rw [← hk']; rfl
              have hin : i < n * n := by rw [HM.out]; exact hiM
              have hbk : m + i * tP k + tN ((l.set i (nxB l)).count 46) ≤ 9223372036854775807 := by
                rw [hck, ← htk]
                have h1 := htp
                have h3 := HBud.out
                rw [HC.out] at h1 h3
                have h2 := Nat.mul_le_mul_right (tP k) (show i + 1 ≤ 121 by omega)
                rw [Nat.add_mul, Nat.one_mul] at h2
                omega
              have hinto := HI.out.into HPre1.out hb hin hbk
              have hnx : ((nxB (l.set i (nxB l))).toNat : Int) = 120 := by
                rw [(cnt_set HPre.out.cnt hb).2, ← nx_num, HP.out]; rfl
              have hcall := IH.out k' hk' (l.set i (nxB l)) (m + i * tP k) _ D' 120 hck hnx hinto
              rw [HP.out] at hcall
              have HCall := Aside0.mk hcall
              have HBack := Aside0.mk (fun e w2 h => HI.out.back (e := e) (w2 := w2) HPre1.out hb hin h)
              rw [HP.out, hck, ← htk] at HBack
              have cgr : wr.cell? ⟨g, 1, none⟩ = some (.slice (some ⟨gb, 0, none⟩) M cb) := by
                have := (HI.out.keep.blk HPre1.out.hd ⟨HPre.out.ng, HPre.out.ngm⟩).cell 1
                rw [HM.out] at this
                exact this
              have fr0 := HI.out.byt.frozen hin
              clear hinto hcall hbk hnx hck htk hlt hk'
              have hown_ : (bl (l.set i (nxB l))).getD i 0 = 111 := by
                have h2 : (l.set i (nxB l))[i]? = some (nxB l) := by rw [List.getElem?_set_self (by rw [HPre.out.len]; exact hin)]
                rw [bl_get h2, HP.out]
              have HO := Aside0.mk hown_
              have hm1 : m + i * tP k + tP k + 1 ≤ m + tN (l.count 46) := by
                have h1 := htp
                rw [HC.out] at h1 ⊢
                have h2 := Nat.mul_le_mul_right (tP k) (show i + 1 ≤ 121 by omega)
                rw [Nat.add_mul, Nat.one_mul] at h2
                omega
              have HM1 := Aside0.mk hm1
              have hlm : m + i * tP k + tP k < maxLen := by
                have h3 := HBud.out
                have : maxLen = 9223372036854775807 := rfl
                omega
              have hin0 := Aside0.mk hin
              clear hown_ hm1 hbnd htp
              by_cases hw : gv n (l.set i (nxB l)) = 111
              · have hgv := gv_move H0.out hb (hw.trans HP.out.symm)
                rw [HP.out] at hgv
                have HGV := Aside0.mk hgv
                have HWW := Aside0.mk hw
                have hv1 := hval 111 (by decide)
                clear hw hgv hb hin
                go_wp2_with fail
                refine HCall.out.mono ?_
                intro e w2 hp2
                obtain ⟨rfl, hk2, hb2, D2, hI2⟩ := HBack.out e w2 hp2
                have cg2 : w2.cell? ⟨g, 1, none⟩ = some (.slice (some ⟨gb, 0, none⟩) M cb) := by
                  have := (hk2.blk HPre1.out.hd ⟨HPre.out.ng, HPre.out.ngm⟩).cell 1
                  rw [HM.out] at this
                  exact this
                have cb2 := hb2.cell hin0.out
                have fr2 := hb2.frozen hin0.out
                have HI2 := Aside0.mk hI2
                have hown2 : (w2.setCell ⟨gb, i, none⟩ (.int .u8 46)).ownsMap Tryd.prog 9 (plainElem Tryd.prog 5) mb (m + i * tP k + tP k) D2 := hI2.own
                rw [HWW.out]
                rw [HO.out] at cb2
                clear hp2 hk2 hb2 hI2 HCall HBack cgr cb0 fr0 HI
                go_wp2_with (at_mapUpdate; refine wpList_mapUpdate_own _ rfl _ _ _ 58 rfl 9 5 K Tryd.underlying58 _ mb (m + i * tP k + tP k) D2 rfl hown2 hlm _ _ (.string l) rfl rfl hkey (.lit (.int .u8 111)) [] hv1 ?_; intro w3 hown3 hg3; have HW3 := Aside0.mk hown3; have HG3 := Aside0.mk hg3; clear hown3 hg3)
                go_ret
                have hfin := wins_end HPre.out HB1.out HI2.out HM1.out (by rw [HGV.out]; exact HW3.out) HG3.out
                rw [HGV.out] at hfin
                exact hfin
              · have HN2 : Aside0 (∀ j : Nat, j < i + 1 → l[j]? = some 46 → gv n (l.set j (nxB l)) ≠ 111) := ⟨fun j hj h => by
                  rcases Nat.lt_or_ge j i with h2 | h2
                  · exact HN.out j h2 h
                  · obtain rfl : j = i := by omega
                    exact hw⟩
                have hx : (gv n (l.set i (nxB l)) == 111) = false := beq_eq_false_iff_ne.2 hw
                clear hw hb hin
                go_wp2_with fail
                refine HCall.out.mono ?_
                intro e w2 hp2
                obtain ⟨rfl, hk2, hb2, D2, hI2⟩ := HBack.out e w2 hp2
                have cg2 : w2.cell? ⟨g, 1, none⟩ = some (.slice (some ⟨gb, 0, none⟩) M cb) := by
                  have := (hk2.blk HPre1.out.hd ⟨HPre.out.ng, HPre.out.ngm⟩).cell 1
                  rw [HM.out] at this
                  exact this
                have cb2 := hb2.cell hin0.out
                have fr2 := hb2.frozen hin0.out
                have HI2 := Aside0.mk hI2
                rw [HO.out] at cb2
                have HN3 := HN2
                clear hp2 hk2 hb2 hI2 HCall HBack cgr cb0 fr0 HI HN2
                generalize gv n (l.set i (nxB l)) = xv at *
                go_wp2_with fail
                go_roundw
                case rel => exact ⟨i + 1, D2, hiM, by go_num, rfl, HN3, ⟨by rw [Nat.add_mul, Nat.one_mul, ← Nat.add_assoc]; exact HI2.out⟩⟩
                case measure => simp [intOf]; omega
            · have hne : ((b.toNat : Int) == 46) = false := by
                have : b.toNat ≠ 46 := fun e => hd (UInt8.toNat_inj.1 e)
                exact beq_eq_false_iff_ne.2 (by omega)
              have hne' : ((b.toNat : Int) != 46) = true := by rw [bne, hne]; rfl
              have HN2 : Aside0 (∀ j : Nat, j < i + 1 → l[j]? = some 46 → gv n (l.set j (nxB l)) ≠ 111) := ⟨fun j hj h => by
                rcases Nat.lt_or_ge j i with h2 | h2
                · exact HN.out j h2 h
                · obtain rfl : j = i := by omega
                  rw [hb] at h
                  exact absurd (Option.some.inj h) hd⟩
              have HI2 : Aside0 (WinsI n gb mb (m + (i + 1) * tP k) l w1 D' wr) := ⟨⟨HI.out.keep, HI.out.byt, World.ownsMap.mono HI.out.own (by rw [Nat.add_mul]; omega), HI.out.kn⟩⟩
              clear hb hd hlt hbnd
              generalize (b.toNat : Int) = bz at *
              go_wp2_with fail
              go_roundw
              case rel => exact ⟨i + 1, D', hiM, by go_num, rfl, HN2, HI2⟩
              case measure => simp [intOf]; omega
          · obtain hiE : i = M := by omega
            have hgv : gv n l = 120 := by
              rw [gv_no H0.out (fun j hj => by
                rw [HP.out]
                refine HN.out j ?_ hj
                have h2 := HPre.out.len
                rw [HM.out] at h2
                rcases Nat.lt_or_ge j l.length with h' | h'
                · omega
                · rw [List.getElem?_eq_none h'] at hj; cases hj), HP.out]
              rfl
            have HGV := Aside0.mk hgv
            have hv1 := hval 120 (by decide)
            have hown2 : wr.ownsMap Tryd.prog 9 (plainElem Tryd.prog 5) mb (m + i * tP k) D' := HI.out.own
            have hlm : m + i * tP k < maxLen := by
              have h3 := HBud.out
              have : maxLen = 9223372036854775807 := rfl
              omega
            clear hgv hbnd htp
            go_wp2_with (at_mapUpdate; refine wpList_mapUpdate_own _ rfl _ _ _ 58 rfl 9 5 K Tryd.underlying58 _ mb (m + i * tP k) D' rfl hown2 hlm _ _ (.string l) rfl rfl hkey (.lit (.int .u8 120)) [] hv1 ?_; intro w3 hown3 hg3; have HW3 := Aside0.mk hown3; have HG3 := Aside0.mk hg3; clear hown3 hg3)
            go_ret
            have hfin := wins_end HPre.out HB1.out HI.out HBnd.out (by rw [HGV.out]; exact HW3.out) HG3.out
            rw [HGV.out] at hfin
            exact hfin

    · have hgv := gv_won h0
      have HGV := Aside0.mk hgv
      have hz : (winB n (bl l) == 0) = false := beq_eq_false_iff_ne.2 h0
      have hwf : (Lit.int .u8 (winB n (bl l))).wf = true := by rw [← hgv]; exact hwl
      have hv1 := hval _ hwf
      have hbnd : m + 1 ≤ m + tN (l.count 46) := by omega
      have HBnd := Aside0.mk hbnd
      have hlm : m < maxLen := by
        have h3 := HBud.out
        have : maxLen = 9223372036854775807 := rfl
        omega
      clear hbnd htp hgv h0 hwl
      generalize winB n (bl l) = wv at *
      rcases hpq with ⟨rfl, rfl⟩ | ⟨rfl, rfl⟩
      all_goals
        go_enter Tryd.func44, Tryd.ntmps44
        go_wp2_with (at_lookup; refine wpList_lookup_own_ok_int _ rfl _ _ 58 rfl 9 5 .u8 K Tryd.underlying58 Tryd.underlying5 (zeroU _) mb m D rfl hown _ _ rfl hkey ?_; intro c hat hwc; rw [hhas]; clear hat)
        refine HW.out.mono ?_
        rintro e w1 ⟨rfl, hb1⟩
        have HB1 := Aside0.mk hb1
        have HPre1 := Aside0.mk (HPre.out.later hb1)
        have hown2 : w1.ownsMap Tryd.prog 9 (plainElem Tryd.prog 5) mb m D := HPre1.out.own
        clear hb1 HW cg0 hcv hown
        go_wp2_with (at_mapUpdate; refine wpList_mapUpdate_own _ rfl _ _ _ 58 rfl 9 5 K Tryd.underlying58 _ mb m D rfl hown2 hlm _ _ (.string l) rfl rfl hkey (.lit (.int .u8 wv)) [] hv1 ?_; intro w3 hown3 hg3; have HW3 := Aside0.mk hown3; have HG3 := Aside0.mk hg3; clear hown3 hg3)
        go_ret
        have hfin := wins_end HPre.out HB1.out ⟨Keep.refl _ _, HPre1.out.byt, HPre1.out.own, HPre1.out.kn⟩ HBnd.out (by rw [HGV.out]; exact HW3.out) HG3.out
        rw [HGV.out] at hfin
        exact hfin
theorem wins_method (n g gb cb mb : Nat) : ∀ k, WinsAt n g gb cb mb k
  | 0 => fun l m w D p hc hp hpre => wins_at n g gb cb mb 0 (fun k' h => absurd h (by omega)) l m w D p (231 - p) hc hp (by rcases nxB_or l with e | e <;> rw [e] at hp <;> subst hp <;> simp) hpre
  | k + 1 => fun l m w D p hc hp hpre => wins_at n g gb cb mb (k + 1) (fun k' h => by
      obtain rfl : k' = k := by omega
      exact wins_method n g gb cb mb k') l m w D p (231 - p) hc hp (by rcases nxB_or l with e | e <;> rw [e] at hp <;> subst hp <;> simp) hpre
end Go.Proofs.YtlmgkmmdaecpdaaDoor.Im

namespace Go.Proofs.YtlmgkmmdaecpdaaDoor.Im
open Go.RowKit Go.Proofs.YtlmgkmmdaecpdaaDoorW.PrintWords Go.Proofs.YtlmgkmmdaecpdaaDoorW.PrintLast Go.Proofs.YtlmgkmmdaecpdaaDoorW.PrintMore Go.Proofs.YtlmgkmmdaecpdaaDoor.Mi
set_option linter.unusedVariables false
set_option linter.unusedSimpArgs false
def strW (v : Int) : ByteArray := if v = 120 then ⟨#[120]⟩ else ⟨#[111]⟩
instance (l : List UInt8) : Decidable (CntOk l) := by unfold CntOk; infer_instance
noncomputable def winsR (n : Int) (s : ByteArray) : ByteArray × Int :=
  if boE n s xodB = 0 then (if CntOk s.data.toList then (if s.data.toList.count 46 ≤ 9 then (strW (gv n.toNat s.data.toList), 0) else (⟨#[]⟩, 8)) else (⟨#[]⟩, 9)) else (⟨#[]⟩, boE n s xodB)
def WinsPost2 (n : Int) (s : ByteArray) (w : World) (e : Ending) (w' : World) : Prop := Below w.heap.size w w' ∧ e = .returned (.tuple #[.string (winsR n s).1, .int .i64 (winsR n s).2])
theorem tN_le : ∀ k, k ≤ 9 → tN k ≤ 9223372036854775807 := by decide
set_option maxHeartbeats 6400000 in
set_option maxRecDepth 100000 in
theorem wins_call (n : Int) (s : ByteArray) (w : World) (hst : Steps w) (hs : s.size ≤ 9223372036854775807) :
    Calls Tryd.prog 18 #[.int .i64 n, .string s] w (WinsPost2 n s w) := by
  have HBo := Aside0.mk (fun w => boarded_any n s xodB w hs (by decide) (by decide))
  have HS := Aside0.mk hst
  have hmk := @run_makeMap Tryd.prog
  have HCo := Aside0.mk (fun (c : UInt8) (w : World) => Tryd.strings_Count_one s c w)
  by_cases hE : boE n s xodB = 0
  · have hok := boE_ok hE
    have HE := Aside0.mk hE
    obtain ⟨m, rfl⟩ : ∃ m : Nat, n = m := ⟨n.toNat, by omega⟩
    have hsz : s.size = m * m := by have := hok.2.2; rw [Int.toNat_natCast] at this; exact this
    have hm1 : 1 ≤ m := by omega
    have hm11 : m ≤ 11 := by omega
    have hmm : m * m ≤ 121 := Nat.mul_le_mul hm11 hm11
    have hlen : s.data.toList.length = m * m := by rw [Array.length_toList]; exact hsz
    have HLen := Aside0.mk hlen
    have HSz := Aside0.mk hsz
    obtain ⟨cx, hcx⟩ : ∃ cx, s.data.toList.count 120 = cx := ⟨_, rfl⟩
    obtain ⟨co, hco⟩ : ∃ co, s.data.toList.count 111 = co := ⟨_, rfl⟩
    obtain ⟨cd, hcd⟩ : ∃ cd, s.data.toList.count 46 = cd := ⟨_, rfl⟩
    have lx : cx ≤ 121 := by have := List.count_le_length (a := (120 : UInt8)) (l := s.data.toList); omega
    have lo : co ≤ 121 := by have := List.count_le_length (a := (111 : UInt8)) (l := s.data.toList); omega
    have ld : cd ≤ 121 := by have := List.count_le_length (a := (46 : UInt8)) (l := s.data.toList); omega
    have HX : Aside0 (∀ w, Calls Tryd.prog 43 #[.string s, .string ⟨#[120]⟩] w fun e w' => e = .returned (.int .i64 (cx : Nat)) ∧ w' = w) := ⟨fun w => by have := HCo.out 120 w; unfold Lib.countByte at this; rw [hcx] at this; exact this⟩
    have HO : Aside0 (∀ w, Calls Tryd.prog 43 #[.string s, .string ⟨#[111]⟩] w fun e w' => e = .returned (.int .i64 (co : Nat)) ∧ w' = w) := ⟨fun w => by have := HCo.out 111 w; unfold Lib.countByte at this; rw [hco] at this; exact this⟩
    have HD : Aside0 (∀ w, Calls Tryd.prog 43 #[.string s, .string ⟨#[46]⟩] w fun e w' => e = .returned (.int .i64 (cd : Nat)) ∧ w' = w) := ⟨fun w => by have := HCo.out 46 w; unfold Lib.countByte at this; rw [hcd] at this; exact this⟩
    have HR1 : Aside0 ((cx = co ∨ cx = co + 1) → cd ≤ 9 → winsR m s = (strW (gv m s.data.toList), 0)) := ⟨fun h1 h2 => by
      unfold winsR
      rw [if_pos hE, if_pos (show CntOk s.data.toList by unfold CntOk; rw [hcx, hco]; exact h1), if_pos (by rw [hcd]; exact h2), Int.toNat_natCast]⟩
    have HR2 : Aside0 ((cx = co ∨ cx = co + 1) → ¬ cd ≤ 9 → winsR m s = (⟨#[]⟩, 8)) := ⟨fun h1 h2 => by
      unfold winsR
      rw [if_pos hE, if_pos (show CntOk s.data.toList by unfold CntOk; rw [hcx, hco]; exact h1), if_neg (by rw [hcd]; exact h2)]⟩
    have HR3 : Aside0 (¬ (cx = co ∨ cx = co + 1) → winsR m s = (⟨#[]⟩, 9)) := ⟨fun h1 => by
      unfold winsR
      rw [if_pos hE, if_neg (show ¬ CntOk s.data.toList by unfold CntOk; rw [hcx, hco]; exact h1)]⟩
    have HCX := Aside0.mk hcx
    have HCOO := Aside0.mk hco
    have HCD := Aside0.mk hcd
    have ww : wrap64 ((cx : Int) - (co : Int)) = (cx : Int) - (co : Int) := by unfold wrap64; omega
    unfold xodB at HBo HE
    clear hst hs hE hok hcx hco hcd hlen hsz HCo
    by_cases hA : cx = co ∨ cx = co + 1
    · by_cases hD : cd ≤ 9
      · have HRR : Aside0 (winsR m s = (strW (gv m s.data.toList), 0)) := ⟨HR1.out hA hD⟩
        have hdd : decide (9 < (cd : Int)) = false := decide_eq_false (by omega)
        have HDD := Aside0.mk hD
        have HAA := Aside0.mk hA
        clear HR1 HR2 HR3
        rcases hA with hA | hA
        · have t0 : (((cx : Int) - (co : Int)) == 0) = true := beq_iff_eq.2 (by omega)
          have hnx : ((nxB s.data.toList).toNat : Int) = 120 := by unfold nxB; rw [HCX.out, HCOO.out, if_neg (by omega)]; rfl
          have HNX := Aside0.mk hnx
          clear hnx hA
          go_enter Tryd.func18, Tryd.ntmps18
          go_wp2_with fail
          refine (HBo.out _).mono ?_
          rintro e w1 ⟨hb1, h1⟩
          rw [if_pos HE.out] at h1
          obtain ⟨g, gb, cb, rfl, hbr, hby, hgl, hgg⟩ := h1
          have HB1 := Aside0.mk hb1
          have HBr := Aside0.mk hbr
          have HBy := Aside0.mk hby
          have HG := Aside0.mk (And.intro hgl hgg)
          clear hb1 hbr hby hgl hgg
          go_wp2_with fail
          refine (HX.out _).mono ?_
          rintro e w2 ⟨rfl, rfl⟩
          go_wp2_with fail
          refine (HO.out _).mono ?_
          rintro e w2 ⟨rfl, rfl⟩
          go_wp2_with fail
          refine (HD.out _).mono ?_
          rintro e w2 ⟨rfl, rfl⟩
          go_wp2_with fail
          have hb2 : Below w2.heap.size w2 (w2.alloc (.map #[] 0)) := below_alloc (Below.refl _ _) _
          have hpre : WinsPre m g gb cb w2.heap.size 0 s.data.toList (w2.alloc (.map #[] 0)) (.map []) := by
            have h0 := HBr.out.later hb2
            rw [Int.toNat_natCast] at h0
            have hy : Byts w2 gb (m * m) (bl s.data.toList) := by have := HBy.out; rw [HSz.out] at this; exact this
            have hl0 : 0 < w.heap.size := Blk.lt HS.out
            have hlg : g < w2.heap.size := Blk.lt HBr.out.hd
            have hg := HG.out
            have hcd := HCD.out
            exact ⟨HS.out.later (below_then HB1.out HB1.out.size hb2), h0.hd, hy.later hb2, HLen.out, h0.n1, h0.n11, World.ownsMap_made w2 _ _ _, Known.nil m, by rw [Nat.zero_add]; exact tN_le _ (by rw [hcd]; exact HDD.out), by unfold CntOk; rw [HCX.out, HCOO.out]; exact HAA.out, by omega, by omega, by omega, by omega, by omega⟩
          have HW := Aside0.mk (wins_method m g gb cb w2.heap.size _ s.data.toList 0 _ (.map []) 120 rfl HNX.out hpre)
          have HK2 := Aside0.mk hb2
          clear hpre hb2
          have hgc := gv_cases m s.data.toList
          go_wp2_with fail
          refine HW.out.mono ?_
          rintro e w3 ⟨rfl, hk3, hby3, D3, ho3, hkn3⟩
          have HB3 : Aside0 (Below w.heap.size w w3) := ⟨by
            have hg := HG.out
            have h1 := below_then HB1.out HB1.out.size HK2.out
            have h2 := hk3.below (B := w.heap.size) h1.size (fun i hi => ⟨by omega, by have := HB1.out.size; omega⟩)
            exact h1.trans h2⟩
          clear hk3 hby3 ho3 hkn3 HW
          have hRR := HRR.out
          rcases hgc with hgc | hgc
          · rw [hgc] at hRR ⊢
            go_wp2_with fail
            go_ret2
            exact ⟨HB3.out, by rw [hRR]; rfl⟩
          · rw [hgc] at hRR ⊢
            go_wp2_with fail
            go_ret2
            exact ⟨HB3.out, by rw [hRR]; rfl⟩
        · have t0 : (((cx : Int) - (co : Int)) == 1) = true := beq_iff_eq.2 (by omega)
          have t1 : (((cx : Int) - (co : Int)) == 0) = false := beq_eq_false_iff_ne.2 (by omega)
          have hnx : ((nxB s.data.toList).toNat : Int) = 111 := by unfold nxB; rw [HCX.out, HCOO.out, if_pos (by omega)]; rfl
          have HNX := Aside0.mk hnx
          clear hnx hA
          go_enter Tryd.func18, Tryd.ntmps18
          go_wp2_with fail
          refine (HBo.out _).mono ?_
          rintro e w1 ⟨hb1, h1⟩
          rw [if_pos HE.out] at h1
          obtain ⟨g, gb, cb, rfl, hbr, hby, hgl, hgg⟩ := h1
          have HB1 := Aside0.mk hb1
          have HBr := Aside0.mk hbr
          have HBy := Aside0.mk hby
          have HG := Aside0.mk (And.intro hgl hgg)
          clear hb1 hbr hby hgl hgg
          go_wp2_with fail
          refine (HX.out _).mono ?_
          rintro e w2 ⟨rfl, rfl⟩
          go_wp2_with fail
          refine (HO.out _).mono ?_
          rintro e w2 ⟨rfl, rfl⟩
          go_wp2_with fail
          refine (HD.out _).mono ?_
          rintro e w2 ⟨rfl, rfl⟩
          go_wp2_with fail
          have hb2 : Below w2.heap.size w2 (w2.alloc (.map #[] 0)) := below_alloc (Below.refl _ _) _
          have hpre : WinsPre m g gb cb w2.heap.size 0 s.data.toList (w2.alloc (.map #[] 0)) (.map []) := by
            have h0 := HBr.out.later hb2
            rw [Int.toNat_natCast] at h0
            have hy : Byts w2 gb (m * m) (bl s.data.toList) := by have := HBy.out; rw [HSz.out] at this; exact this
            have hl0 : 0 < w.heap.size := Blk.lt HS.out
            have hlg : g < w2.heap.size := Blk.lt HBr.out.hd
            have hg := HG.out
            have hcd := HCD.out
            exact ⟨HS.out.later (below_then HB1.out HB1.out.size hb2), h0.hd, hy.later hb2, HLen.out, h0.n1, h0.n11, World.ownsMap_made w2 _ _ _, Known.nil m, by rw [Nat.zero_add]; exact tN_le _ (by rw [hcd]; exact HDD.out), by unfold CntOk; rw [HCX.out, HCOO.out]; exact HAA.out, by omega, by omega, by omega, by omega, by omega⟩
          have HW := Aside0.mk (wins_method m g gb cb w2.heap.size _ s.data.toList 0 _ (.map []) 111 rfl HNX.out hpre)
          have HK2 := Aside0.mk hb2
          clear hpre hb2
          have hgc := gv_cases m s.data.toList
          go_wp2_with fail
          refine HW.out.mono ?_
          rintro e w3 ⟨rfl, hk3, hby3, D3, ho3, hkn3⟩
          have HB3 : Aside0 (Below w.heap.size w w3) := ⟨by
            have hg := HG.out
            have h1 := below_then HB1.out HB1.out.size HK2.out
            have h2 := hk3.below (B := w.heap.size) h1.size (fun i hi => ⟨by omega, by have := HB1.out.size; omega⟩)
            exact h1.trans h2⟩
          clear hk3 hby3 ho3 hkn3 HW
          have hRR := HRR.out
          rcases hgc with hgc | hgc
          · rw [hgc] at hRR ⊢
            go_wp2_with fail
            go_ret2
            exact ⟨HB3.out, by rw [hRR]; rfl⟩
          · rw [hgc] at hRR ⊢
            go_wp2_with fail
            go_ret2
            exact ⟨HB3.out, by rw [hRR]; rfl⟩
      · have HRR : Aside0 (winsR m s = (⟨#[]⟩, 8)) := ⟨HR2.out hA hD⟩
        have hdd : decide (9 < (cd : Int)) = true := decide_eq_true (by omega)
        clear HR1 HR2 HR3
        rcases hA with hA | hA
        · have t0 : (((cx : Int) - (co : Int)) == 0) = true := beq_iff_eq.2 (by omega)
          clear hA
          go_enter Tryd.func18, Tryd.ntmps18
          go_wp2_with fail
          refine (HBo.out _).mono ?_
          rintro e w1 ⟨hb1, h1⟩
          rw [if_pos HE.out] at h1
          obtain ⟨g, gb, cb, rfl, hbr, hby, hgl, hgg⟩ := h1
          have HB1 := Aside0.mk hb1
          have HBr := Aside0.mk hbr
          have HBy := Aside0.mk hby
          have HG := Aside0.mk (And.intro hgl hgg)
          clear hb1 hbr hby hgl hgg
          go_wp2_with fail
          refine (HX.out _).mono ?_
          rintro e w2 ⟨rfl, rfl⟩
          go_wp2_with fail
          refine (HO.out _).mono ?_
          rintro e w2 ⟨rfl, rfl⟩
          go_wp2_with fail
          refine (HD.out _).mono ?_
          rintro e w2 ⟨rfl, rfl⟩
          go_wp2_with fail
          go_ret2
          exact ⟨HB1.out, by rw [HRR.out]; rfl⟩
        · have t0 : (((cx : Int) - (co : Int)) == 1) = true := beq_iff_eq.2 (by omega)
          have t1 : (((cx : Int) - (co : Int)) == 0) = false := beq_eq_false_iff_ne.2 (by omega)
          clear hA
          go_enter Tryd.func18, Tryd.ntmps18
          go_wp2_with fail
          refine (HBo.out _).mono ?_
          rintro e w1 ⟨hb1, h1⟩
          rw [if_pos HE.out] at h1
          obtain ⟨g, gb, cb, rfl, hbr, hby, hgl, hgg⟩ := h1
          have HB1 := Aside0.mk hb1
          have HBr := Aside0.mk hbr
          have HBy := Aside0.mk hby
          have HG := Aside0.mk (And.intro hgl hgg)
          clear hb1 hbr hby hgl hgg
          go_wp2_with fail
          refine (HX.out _).mono ?_
          rintro e w2 ⟨rfl, rfl⟩
          go_wp2_with fail
          refine (HO.out _).mono ?_
          rintro e w2 ⟨rfl, rfl⟩
          go_wp2_with fail
          refine (HD.out _).mono ?_
          rintro e w2 ⟨rfl, rfl⟩
          go_wp2_with fail
          go_ret2
          exact ⟨HB1.out, by rw [HRR.out]; rfl⟩
    · have HRR : Aside0 (winsR m s = (⟨#[]⟩, 9)) := ⟨HR3.out hA⟩
      have t0 : (((cx : Int) - (co : Int)) == 0) = false := beq_eq_false_iff_ne.2 (by omega)
      have t1 : (((cx : Int) - (co : Int)) == 1) = false := beq_eq_false_iff_ne.2 (by omega)
      clear hA HR1 HR2 HR3
      go_enter Tryd.func18, Tryd.ntmps18
      go_wp2_with fail
      refine (HBo.out _).mono ?_
      rintro e w1 ⟨hb1, h1⟩
      rw [if_pos HE.out] at h1
      obtain ⟨g, gb, cb, rfl, hbr, hby, hgl, hgg⟩ := h1
      have HB1 := Aside0.mk hb1
      have HBr := Aside0.mk hbr
      have HBy := Aside0.mk hby
      have HG := Aside0.mk (And.intro hgl hgg)
      clear hb1 hbr hby hgl hgg
      go_wp2_with fail
      refine (HX.out _).mono ?_
      rintro e w2 ⟨rfl, rfl⟩
      go_wp2_with fail
      refine (HO.out _).mono ?_
      rintro e w2 ⟨rfl, rfl⟩
      go_wp2_with fail
      go_ret2
      exact ⟨HB1.out, by rw [HRR.out]; rfl⟩
  · have HR : Aside0 (∀ w', Below w.heap.size w w' → WinsPost2 n s w (.returned (.tuple #[.string ⟨#[]⟩, .int .i64 (boE n s xodB)])) w') := ⟨fun w' hb => ⟨hb, by unfold winsR; rw [if_neg hE]⟩⟩
    have HBo2 := Aside0.mk (fun w1 e w2 (h : BoardedPost n s xodB w1 e w2) => (show e = .returned (.tuple #[.pointer none, .int .i64 (boE n s xodB)]) ∧ Below w1.heap.size w1 w2 by
      unfold BoardedPost at h
      rw [if_neg hE] at h
      exact ⟨h.2, h.1⟩))
    have hz : (boE n s xodB == 0) = false := beq_eq_false_iff_ne.2 hE
    unfold xodB at *
    clear hst hs hE HCo
    generalize boE n s ⟨#[120, 111, 46]⟩ = z at *
    go_enter Tryd.func18, Tryd.ntmps18
    go_wp2_with fail
    refine (HBo.out _).mono ?_
    intro e w1 h1
    obtain ⟨rfl, hb1⟩ := HBo2.out _ _ _ h1
    have HB1 := Aside0.mk hb1
    clear h1 hb1
    go_wp2_with fail
    go_ret2
    exact HR.out _ HB1.out
end Go.Proofs.YtlmgkmmdaecpdaaDoor.Im

namespace Go.Proofs.YtlmgkmmdaecpdaaDoor.Im
open Go.RowKit Go.Proofs.YtlmgkmmdaecpdaaDoorW.PrintWords Go.Proofs.YtlmgkmmdaecpdaaDoorW.PrintLast Go.Proofs.YtlmgkmmdaecpdaaDoorW.PrintMore Go.Proofs.YtlmgkmmdaecpdaaDoor.Mi
set_option linter.unusedVariables false
theorem winB_zero {n : Nat} {bs : List Int} (h1 : brO n bs 120 = none) (h2 : brO n bs 111 = none) : winB n bs = 0 := by unfold winB; rw [h1, h2]; rfl
theorem winB_x {n : Nat} {bs : List Int} (h : (brO n bs 120).isSome = true) : winB n bs = 120 := by unfold winB; rw [if_pos h]
theorem gv_x {n : Nat} {l : List UInt8} (h : (brO n (bl l) 120).isSome = true) : gv n l = 120 := by rw [gv_won (by rw [winB_x h]; decide), winB_x h]
theorem w12 {bs : List Int} (h1 : okP bs 120 1) (h2 : okP bs 120 2) : (brO 2 bs 120).isSome = true :=
  brO_ex (P := [1, 2]) ⟨by simp, ⟨by decide, trivial⟩, fun p hp => by
    simp at hp
    rcases hp with rfl | rfl
    · exact ⟨by omega, h1⟩
    · exact ⟨by omega, h2⟩, by show enP 2 120 2; decide⟩ (by show beP 2 120 1; decide)
theorem w13 {bs : List Int} (h1 : okP bs 120 1) (h2 : okP bs 120 3) : (brO 2 bs 120).isSome = true :=
  brO_ex (P := [1, 3]) ⟨by simp, ⟨by decide, trivial⟩, fun p hp => by
    simp at hp
    rcases hp with rfl | rfl
    · exact ⟨by omega, h1⟩
    · exact ⟨by omega, h2⟩, by show enP 2 120 3; decide⟩ (by show beP 2 120 1; decide)
theorem al_gv0 : gv 2 [111, 120, 46, 46] = 120 :=
  gv_move (winB_zero (brO_closed [1] (by decide) (by decide) (by decide)) (brO_closed [0] (by decide) (by decide) (by decide))) (i := 2) rfl (gv_x (w12 (by decide) (by decide)))
theorem al_gv2 : gv 2 [46, 120, 111, 46] = 120 :=
  gv_move (winB_zero (brO_closed [1] (by decide) (by decide) (by decide)) (brO_closed [2] (by decide) (by decide) (by decide))) (i := 3) rfl (gv_x (w13 (by decide) (by decide)))
theorem al_gv3 : gv 2 [46, 120, 46, 111] = 120 :=
  gv_move (winB_zero (brO_closed [1] (by decide) (by decide) (by decide)) (brO_closed [] (by decide) (by decide) (by decide))) (i := 2) rfl (gv_x (w12 (by decide) (by decide)))
theorem al_gv1 : gv 2 [46, 120, 46, 46] = 120 := by
  have h := gv_no (n := 2) (l := [46, 120, 46, 46]) (winB_zero (brO_closed [1] (by decide) (by decide) (by decide)) (brO_closed [] (by decide) (by decide) (by decide))) (fun i hi => by
    match i, hi with
    | 0, _ => show gv 2 [111, 120, 46, 46] ≠ 111; rw [al_gv0]; decide
    | 1, hi => exact absurd hi (by decide)
    | 2, _ => show gv 2 [46, 120, 111, 46] ≠ 111; rw [al_gv2]; decide
    | 3, _ => show gv 2 [46, 120, 46, 111] ≠ 111; rw [al_gv3]; decide
    | i + 4, hi => simp at hi)
  rw [h]; rfl
theorem al_gv : gv 2 [46, 46, 46, 46] = 120 := gv_move (winB_zero (brO_closed [] (by decide) (by decide) (by decide)) (brO_closed [] (by decide) (by decide) (by decide))) (i := 1) rfl al_gv1
end Go.Proofs.YtlmgkmmdaecpdaaDoor.Im

namespace Go.Proofs.YtlmgkmmdaecpdaaDoor.Im
open Go.RowKit Go.Proofs.YtlmgkmmdaecpdaaDoorW.PrintWords Go.Proofs.YtlmgkmmdaecpdaaDoorW.PrintLast Go.Proofs.YtlmgkmmdaecpdaaDoorW.PrintMore Go.Proofs.YtlmgkmmdaecpdaaDoor.Mi
set_option linter.unusedVariables false
theorem al_c : ∀ a, a < 4 → coC [46, 46, 46, 46] (cost0 120) a = 1 := by decide
theorem al_need : needO 2 [46, 46, 46, 46] 120 = some 2 := needO_some {
  real := ⟨[0, 2], ⟨by simp, ⟨by decide, trivial⟩, fun p hp => by
    simp at hp
    rcases hp with rfl | rfl
    · exact ⟨by omega, by unfold okC; decide⟩
    · exact ⟨by omega, by unfold okC; decide⟩, by show enP 2 120 2; decide⟩, by show beP 2 120 0; decide, by decide⟩
  le := fun P h hb => by
    match P, h, hb with
    | [], h, _ => exact absurd rfl h.ne
    | [p], h, hb =>
      have hm := (h.mem p List.mem_cons_self).1
      have h1 : beP 2 120 p := hb
      have h2 : enP 2 120 p := h.fin
      unfold beP at h1
      unfold enP at h2
      omega
    | p :: q :: t, h, hb =>
      have h1 := al_c p (h.mem p List.mem_cons_self).1
      have h2 := al_c q (h.mem q (List.mem_cons_of_mem _ List.mem_cons_self)).1
      show 2 ≤ coC _ _ p + (coC _ _ q + costN _ t)
      rw [h1, h2]
      omega }
theorem al_way : WyP 2 [120, 111, 111, 120] 111 [2, 1] := ⟨by simp, ⟨by decide, trivial⟩, fun p hp => by
    simp at hp
    rcases hp with rfl | rfl
    · exact ⟨by omega, by decide⟩
    · exact ⟨by omega, by decide⟩, by show enP 2 111 1; decide⟩
theorem al_be : ∀ a, a < 4 → okP [120, 111, 111, 120] 111 a → beP 2 111 a → a = 2 := by decide
theorem al_two {P : List Nat} (h : WyP 2 [120, 111, 111, 120] 111 P) (hb : beP 2 111 (headN P)) : 2 ≤ P.length := by
  match P, h, hb with
  | [], h, _ => exact absurd rfl h.ne
  | [p], h, hb =>
    have h1 : beP 2 111 p := hb
    have h2 : enP 2 111 p := h.fin
    unfold beP at h1
    unfold enP at h2
    omega
  | p :: q :: t, h, hb => simp
theorem al_dist {a d : Nat} (hb : beP 2 111 a) (h : DistP 2 [120, 111, 111, 120] 111 a d) : 2 ≤ d := by
  obtain ⟨P, h1, h2, h3⟩ := h.real
  rw [cost_one] at h3
  have := al_two h1 (by rw [h2]; exact hb)
  omega
theorem al_first : FirstP 2 [120, 111, 111, 120] 111 [2, 1] where
  way := al_way
  start := by show beP 2 111 2; decide
  dist := ⟨⟨[2, 1], al_way, rfl, rfl⟩, fun P hP hh => by
    rw [cost_one]
    exact al_two hP (by rw [hh]; show beP 2 111 2; decide)⟩
  short := fun a d hb h => al_dist hb h
  least := fun a hb h => by
    obtain ⟨P, h1, h2, _⟩ := h.real
    have hm : headN P ∈ P := by
      cases P with
      | nil => exact absurd rfl h1.ne
      | cons x t => exact List.mem_cons_self
    have h3 := h1.mem _ hm
    rw [h2] at h3
    have := al_be a h3.1 h3.2 hb
    show 2 ≤ a
    omega
  greedy := ⟨⟨by decide, fun j hj h => by
    obtain ⟨P, h1, h2, _⟩ := h.real
    have hm : headN P ∈ P := by
      cases P with
      | nil => exact absurd rfl h1.ne
      | cons x t => exact List.mem_cons_self
    have h3 := h1.mem _ hm
    rw [h2] at h3
    have h4 : j ≠ 0 := fun e => by
      have := h3.2
      rw [e] at this
      exact absurd this (by decide)
    omega⟩, trivial⟩
theorem al_bridge : brO 2 [120, 111, 111, 120] 111 = some [2, 1] := brO_some al_first
theorem al_winB : winB 2 [120, 111, 111, 120] = 111 := by unfold winB; rw [al_ox, al_bridge]; rfl
end Go.Proofs.YtlmgkmmdaecpdaaDoor.Im

namespace Go.Proofs.YtlmgkmmdaecpdaaDoor.Im
open Go.RowKit Go.Proofs.YtlmgkmmdaecpdaaDoorW.PrintWords Go.Proofs.YtlmgkmmdaecpdaaDoorW.PrintLast Go.Proofs.YtlmgkmmdaecpdaaDoorW.PrintMore Go.Proofs.YtlmgkmmdaecpdaaDoor.Mi
set_option linter.unusedVariables false
theorem al_f (w : World) : Calls Tryd.prog 28 #[.int .i64 1, .string ⟨#[48, 50, 49]⟩] w fun e w' => Below w.heap.size w w' ∧ ∃ v, e = .returned (.tuple #[v, .int .i64 0]) ∧ Kd.R (Kd.slice 3 (Kd.int .i64)) 34 w' w.heap.size (fun _ => True) v [[0, 0, 0]] := by
  refine (full_call 1 ⟨#[48, 50, 49]⟩ w (by decide)).mono ?_
  rintro e w' ⟨h1, h2⟩
  rw [if_pos al_err] at h2
  obtain ⟨v, h3, h4⟩ := h2
  exact ⟨h1, v, h3, by have := h4; rw [show fulL (1 : Int).toNat (⟨#[48, 50, 49]⟩ : ByteArray).data.toList = [[0, 0, 0]] from al_full] at this; exact this⟩
theorem al_t (w : World) (mL : Int) (hm : w.cell? ⟨1, 0, none⟩ = some (.int .i64 mL)) : Calls Tryd.prog 31 #[.int .i64 1, .string ⟨#[48, 50, 49]⟩] w fun e w' => Below w.heap.size w w' ∧ e = .returned (.tuple #[.int .i64 1, .int .i64 0, .int .i64 0]) := by
  refine (turns_call 1 ⟨#[48, 50, 49]⟩ w (by decide) mL hm).mono ?_
  rintro e w' ⟨h1, h2⟩
  rw [if_pos al_err, show rigL (1 : Int).toNat (⟨#[48, 50, 49]⟩ : ByteArray).data.toList = 1 from al_rig, show lefL (1 : Int).toNat (⟨#[48, 50, 49]⟩ : ByteArray).data.toList = 0 from al_lef] at h2
  exact ⟨h1, h2⟩
theorem al_n (w : World) (hst : Steps w) : Calls Tryd.prog 20 #[.int .i64 2, .string ⟨#[46, 46, 46, 46]⟩, .string ⟨#[120]⟩] w fun e w' => Below w.heap.size w w' ∧ e = .returned (.tuple #[.int .i64 2, .int .i64 0]) := by
  refine (needs_call 2 ⟨#[46, 46, 46, 46]⟩ ⟨#[120]⟩ w hst (by decide)).mono ?_
  rintro e w' ⟨h1, h2⟩
  refine ⟨h1, ?_⟩
  rw [h2, show needsR 2 ⟨#[46, 46, 46, 46]⟩ ⟨#[120]⟩ = (2, 0) from by
    unfold needsR
    rw [if_pos (by decide), if_pos (by unfold plB; rw [ByteArray.toList_mk]; rfl), show needO (2 : Int).toNat (bsOf ⟨#[46, 46, 46, 46]⟩) (bt ⟨#[120]⟩ 0) = some 2 from al_need]
    rfl]
theorem al_w (w : World) (hst : Steps w) : Calls Tryd.prog 18 #[.int .i64 2, .string ⟨#[46, 46, 46, 46]⟩] w fun e w' => Below w.heap.size w w' ∧ e = .returned (.tuple #[.string ⟨#[120]⟩, .int .i64 0]) := by
  refine (wins_call 2 ⟨#[46, 46, 46, 46]⟩ w hst (by decide)).mono ?_
  rintro e w' ⟨h1, h2⟩
  refine ⟨h1, ?_⟩
  rw [h2, show winsR 2 ⟨#[46, 46, 46, 46]⟩ = (⟨#[120]⟩, 0) from by
    unfold winsR
    rw [if_pos (by decide), if_pos (by decide), if_pos (by decide), show gv (2 : Int).toNat (⟨#[46, 46, 46, 46]⟩ : ByteArray).data.toList = 120 from al_gv]
    rfl]
theorem al_v (w : World) (hst : Steps w) : Calls Tryd.prog 24 #[.int .i64 2, .string ⟨#[120, 111, 111, 120]⟩] w fun e w' => Below w.heap.size w w' ∧ ∃ A c, e = .returned (.tuple #[.string ⟨#[111]⟩, .slice (some A) 2 c, .int .i64 0]) ∧ Kd.R (Kd.int .i64) 3 w' w.heap.size (fun _ => True) (.slice (some A) 2 c) [2, 1] := by
  refine (winner_call 2 ⟨#[120, 111, 111, 120]⟩ w hst (by decide)).mono ?_
  rintro e w' ⟨h1, h2⟩
  rw [if_pos (by decide)] at h2
  obtain ⟨G, A, c, h3, h4, h5⟩ := h2
  rw [show winB (2 : Int).toNat (bsOf ⟨#[120, 111, 111, 120]⟩) = 111 from al_winB] at h3 h4
  rw [show brO (2 : Int).toNat (bsOf ⟨#[120, 111, 111, 120]⟩) 111 = some [2, 1] from al_bridge] at h3
  cases h3
  exact ⟨h1, A, c, h4, h5⟩
end Go.Proofs.YtlmgkmmdaecpdaaDoor.Im

namespace Go.Proofs.YtlmgkmmdaecpdaaDoor.Im
open Go.RowKit Go.Proofs.YtlmgkmmdaecpdaaDoorW.PrintWords Go.Proofs.YtlmgkmmdaecpdaaDoorW.PrintLast Go.Proofs.YtlmgkmmdaecpdaaDoorW.PrintMore
attribute [local go_sem] max2_int min2_int max_two min_two max_three min_three max_four min_four
set_option linter.unusedVariables false
set_option linter.unusedSimpArgs false
def pomadelaw04_same.l0 : Nat → List Int → List Int → Int → Option (Bool)
  | 0, _, _, _ => none
  | k + 1, x0, x1, x5 => if x5 < (x0.length : Int) then (if 0 ≤ x5 then (if x5 < (x1.length : Int) then (if (rd x0 x5) = (rd x1 x5) then (pomadelaw04_same.l0 k x0 x1 (wrap64 (x5 + 1))) else (some false)) else (none)) else (none)) else (some true)
def pomadelaw04_same.f (k : Nat) (l0 : List Int) (l1 : List Int) : Option (Bool) := if (l0.length : Int) = (l1.length : Int) then (pomadelaw04_same.l0 k l0 l1 0) else (some false)
theorem pomadelaw04_same.mono_l : ∀ k, (∀ y0 y1 y2, LeO (pomadelaw04_same.l0 k y0 y1 y2) (pomadelaw04_same.l0 (k + 1) y0 y1 y2))
  | 0 => fun _ _ _ r h => by simp [pomadelaw04_same.l0] at h
  | k + 1 => by
    have ih0 := pomadelaw04_same.mono_l k
    · intro y0 y1 y2
      unfold pomadelaw04_same.l0
      repeat' first
      | (with_reducible exact ih0 _ _ _)
      | (with_reducible exact LeO.refl _)
      | (with_reducible exact LeO.none _)
      | (with_reducible refine LeO.ite ?_ ?_)
      | (with_reducible refine LeO.bind ?_ (fun _ => ?_))
      | exact ih0 _ _ _
      | exact LeO.none _
      | refine LeO.ite ?_ ?_
      | refine LeO.bind ?_ (fun _ => ?_)
theorem pomadelaw04_same.mono : ∀ a0 a1 k, LeO (pomadelaw04_same.f k a0 a1) (pomadelaw04_same.f (k + 1) a0 a1) := by
  intro a0 a1 k
  have ih0 := pomadelaw04_same.mono_l k
  unfold pomadelaw04_same.f
  repeat' first
      | (with_reducible exact ih0 _ _ _)
      | (with_reducible exact LeO.refl _)
      | (with_reducible exact LeO.none _)
      | (with_reducible refine LeO.ite ?_ ?_)
      | (with_reducible refine LeO.bind ?_ (fun _ => ?_))
      | exact ih0 _ _ _
      | exact LeO.none _
      | refine LeO.ite ?_ ?_
      | refine LeO.bind ?_ (fun _ => ?_)
set_option maxHeartbeats 8000000 in
set_option maxRecDepth 100000 in
theorem pomadelaw04_same.calls (k : Nat) (A0 : Option Addr) (c0 : Nat) (l0 : List Int) (A1 : Option Addr) (c1 : Nat) (l1 : List Int) (r : Bool) (w : World) (hr0 : Kd.C (Kd.int .i64) w A0 l0.length l0) (hc0 : l0.length ≤ c0) (hr1 : Kd.C (Kd.int .i64) w A1 l1.length l1) (hc1 : l1.length ≤ c1) (h : pomadelaw04_same.f k l0 l1 = some r) :
    Calls Tryd.prog 33 #[.slice A0 l0.length c0, .slice A1 l1.length c1] w fun e w' => e = .returned (.bool r) ∧ Drawn0 w w' := by
  have HR0 := Aside0.mk hr0
  have HC0 := Aside0.mk hc0
  clear hr0 hc0
  have HR1 := Aside0.mk hr1
  have HC1 := Aside0.mk hc1
  clear hr1 hc1
  have H : (if (l0.length : Int) = (l1.length : Int) then (pomadelaw04_same.l0 k l0 l1 0) else (some false)) = some r := h
  clear h
  by_cases c3 : (l0.length : Int) = (l1.length : Int)
  · rw [if_pos c3] at H
    have c3b0 : ((l0.length : Int) == (l1.length : Int)) = true := beq_iff_eq.mpr c3
    have c3b1 : ((l0.length : Int) != (l1.length : Int)) = false := bne_eq_false_iff_eq.mpr c3
    have c3b2 : (l0.length == l1.length) = true := by first | simpa using c3 | (simp at c3 ⊢; omega)
    clear c3
    have H' := Aside0.mk H
    clear H
    go_enter Tryd.func33, Tryd.ntmps33
    go_wp2
    repeat (go_quiet (fail); try go_wp2)
    go_loopg [5] k (fun kq v5 w' => ∃ (x5_1 : Int), v5 = .int .i64 x5_1 ∧ Aside0 (pomadelaw04_same.l0 kq l0 l1 x5_1 = some r) ∧ Aside0 (kq ≤ k) ∧ Drawn0 w w')
    case atStart => exact ⟨(0), (by first | rfl | (simp; done) | (simp [*]; done)), H', ⟨Nat.le_refl _⟩, by repeat (first | exact Drawn0.refl _ | apply Drawn0.step)⟩
    case round =>
      clear H'
      try clear c1
      try clear p2
      try clear c3
      try clear c3b0
      try clear c3b1
      try clear c3b2
      obtain ⟨x5_1, rfl, HA, HK1, ⟨m1, rfl⟩⟩ := hrel
      cases gk with
      | zero => exact absurd HA.out (by simp [pomadelaw04_same.l0])
      | succ k1 =>
        have H := HA.out
        clear HA
        simp only [pomadelaw04_same.l0] at H
        by_cases c4 : x5_1 < (l0.length : Int)
        · rw [if_pos c4] at H
          have c4b0 : decide (x5_1 < (l0.length : Int)) = true := decide_eq_true c4
          clear c4
          by_cases c5 : 0 ≤ x5_1
          · rw [if_pos c5] at H
            have c5b0 : decide (0 ≤ x5_1) = true := decide_eq_true c5
            clear c5
            by_cases c6 : x5_1 < (l1.length : Int)
            · rw [if_pos c6] at H
              have c6b0 : decide (x5_1 < (l1.length : Int)) = true := decide_eq_true c6
              clear c6
              by_cases c7 : (rd l0 x5_1) = (rd l1 x5_1)
              · rw [if_pos c7] at H
                have c7b0 : ((rd l0 x5_1) == (rd l1 x5_1)) = true := beq_iff_eq.mpr c7
                have c7b1 : ((rd l0 x5_1) != (rd l1 x5_1)) = false := bne_eq_false_iff_eq.mpr c7
                clear c7
                have H' := Aside0.mk H
                clear H
                have p232 : 0 ≤ (x5_1 : Int) := of_decide_eq_true (by first | (with_reducible assumption) | assumption)
                have q232 : x5_1 < (l0.length : Int) := of_decide_eq_true (by first | (with_reducible assumption) | assumption)
                obtain ⟨ad232, e232, hx232_0⟩ := Kd.at_int HR0.out x5_1 p232 q232
                cases e232
                replace p232 := eq_true p232
                replace q232 := eq_true q232
                have p233 : 0 ≤ (x5_1 : Int) := of_decide_eq_true (by first | (with_reducible assumption) | assumption)
                have q233 : x5_1 < (l1.length : Int) := of_decide_eq_true (by first | (with_reducible assumption) | assumption)
                obtain ⟨ad233, e233, hx233_0⟩ := Kd.at_int HR1.out x5_1 p233 q233
                cases e233
                replace p233 := eq_true p233
                replace q233 := eq_true q233
                go_wp2
                repeat (go_quiet (fail); try go_wp2)
                go_roundg k1
                case measure => have := HK1.out; omega
                case rel => exact ⟨(wrap64 (x5_1 + 1)), (by first | rfl | (simp; done) | (simp [*]; done)), H', ⟨by have := HK1.out; omega⟩, by repeat (first | exact Drawn0.refl _ | apply Drawn0.step)⟩
              · rw [if_neg c7] at H
                have c7b0 : ((rd l0 x5_1) == (rd l1 x5_1)) = false := beq_eq_false_iff_ne.mpr c7
                have c7b1 : ((rd l0 x5_1) != (rd l1 x5_1)) = true := bne_iff_ne.mpr c7
                obtain rfl := Option.some.inj H
                have p232 : 0 ≤ (x5_1 : Int) := of_decide_eq_true (by first | (with_reducible assumption) | assumption)
                have q232 : x5_1 < (l0.length : Int) := of_decide_eq_true (by first | (with_reducible assumption) | assumption)
                obtain ⟨ad232, e232, hx232_0⟩ := Kd.at_int HR0.out x5_1 p232 q232
                cases e232
                replace p232 := eq_true p232
                replace q232 := eq_true q232
                have p233 : 0 ≤ (x5_1 : Int) := of_decide_eq_true (by first | (with_reducible assumption) | assumption)
                have q233 : x5_1 < (l1.length : Int) := of_decide_eq_true (by first | (with_reducible assumption) | assumption)
                obtain ⟨ad233, e233, hx233_0⟩ := Kd.at_int HR1.out x5_1 p233 q233
                cases e233
                replace p233 := eq_true p233
                replace q233 := eq_true q233
                go_wp2
                repeat (go_quiet (fail); try go_wp2)
                go_ret
                exact ⟨by first | rfl | (simp; done) | (simp [*]; done), by repeat (first | exact Drawn0.refl _ | apply Drawn0.step)⟩
            · rw [if_neg c6] at H
              exact absurd H (by simp)
          · rw [if_neg c5] at H
            exact absurd H (by simp)
        · rw [if_neg c4] at H
          have c4b0 : decide (x5_1 < (l0.length : Int)) = false := decide_eq_false c4
          clear c4
          obtain rfl := Option.some.inj H
          go_wp2
          repeat (go_quiet (fail); try go_wp2)
          go_ret
          exact ⟨by first | rfl | (simp; done) | (simp [*]; done), by repeat (first | exact Drawn0.refl _ | apply Drawn0.step)⟩
  · rw [if_neg c3] at H
    have c3b0 : ((l0.length : Int) == (l1.length : Int)) = false := beq_eq_false_iff_ne.mpr c3
    have c3b1 : ((l0.length : Int) != (l1.length : Int)) = true := bne_iff_ne.mpr c3
    have c3b2 : (l0.length == l1.length) = false := by first | simpa using c3 | (simp at c3 ⊢; omega)
    obtain rfl := Option.some.inj H
    go_enter Tryd.func33, Tryd.ntmps33
    go_wp2
    repeat (go_quiet (fail); try go_wp2)
    go_ret
    exact ⟨by first | rfl | (simp; done) | (simp [*]; done), by repeat (first | exact Drawn0.refl _ | apply Drawn0.step)⟩
def pomadelaw04_lists.l0 : Nat → List (List Int) → List (List Int) → Int → Option (Bool)
  | 0, _, _, _ => none
  | k + 1, x0, x1, x5 => if x5 < (x0.length : Int) then (if 0 ≤ x5 then (if x5 < (x1.length : Int) then ((pomadelaw04_same.f k (rd_L3 x0 x5) (rd_L3 x1 x5)).bind fun t250 => (if t250 = true then (pomadelaw04_lists.l0 k x0 x1 (wrap64 (x5 + 1))) else (some false))) else (none)) else (none)) else (some true)
def pomadelaw04_lists.f (k : Nat) (l0 : List (List Int)) (l1 : List (List Int)) : Option (Bool) := if (l0.length : Int) = (l1.length : Int) then (pomadelaw04_lists.l0 k l0 l1 0) else (some false)
theorem pomadelaw04_lists.mono_l : ∀ k, (∀ y0 y1 y2, LeO (pomadelaw04_lists.l0 k y0 y1 y2) (pomadelaw04_lists.l0 (k + 1) y0 y1 y2))
  | 0 => fun _ _ _ r h => by simp [pomadelaw04_lists.l0] at h
  | k + 1 => by
    have ih0 := pomadelaw04_lists.mono_l k
    · intro y0 y1 y2
      unfold pomadelaw04_lists.l0
      repeat' first
      | (with_reducible exact ih0 _ _ _)
      | (with_reducible exact pomadelaw04_same.mono _ _ _)
      | (with_reducible exact LeO.refl _)
      | (with_reducible exact LeO.none _)
      | (with_reducible refine LeO.ite ?_ ?_)
      | (with_reducible refine LeO.bind ?_ (fun _ => ?_))
      | exact ih0 _ _ _
      | exact pomadelaw04_same.mono _ _ _
      | exact LeO.none _
      | refine LeO.ite ?_ ?_
      | refine LeO.bind ?_ (fun _ => ?_)
theorem pomadelaw04_lists.mono : ∀ a0 a1 k, LeO (pomadelaw04_lists.f k a0 a1) (pomadelaw04_lists.f (k + 1) a0 a1) := by
  intro a0 a1 k
  have ih0 := pomadelaw04_lists.mono_l k
  unfold pomadelaw04_lists.f
  repeat' first
      | (with_reducible exact ih0 _ _ _)
      | (with_reducible exact pomadelaw04_same.mono _ _ _)
      | (with_reducible exact LeO.refl _)
      | (with_reducible exact LeO.none _)
      | (with_reducible refine LeO.ite ?_ ?_)
      | (with_reducible refine LeO.bind ?_ (fun _ => ?_))
      | exact ih0 _ _ _
      | exact pomadelaw04_same.mono _ _ _
      | exact LeO.none _
      | refine LeO.ite ?_ ?_
      | refine LeO.bind ?_ (fun _ => ?_)
set_option maxHeartbeats 8000000 in
set_option maxRecDepth 100000 in
theorem pomadelaw04_lists.calls (k : Nat) (A0 : Option Addr) (c0 : Nat) (l0 : List (List Int)) (A1 : Option Addr) (c1 : Nat) (l1 : List (List Int)) (r : Bool) (w : World) (hr0 : Kd.C (Kd.slice 3 (Kd.int .i64)) w A0 l0.length l0) (hc0 : l0.length ≤ c0) (hr1 : Kd.C (Kd.slice 3 (Kd.int .i64)) w A1 l1.length l1) (hc1 : l1.length ≤ c1) (h : pomadelaw04_lists.f k l0 l1 = some r) :
    Calls Tryd.prog 29 #[.slice A0 l0.length c0, .slice A1 l1.length c1] w fun e w' => e = .returned (.bool r) ∧ Drawn0 w w' := by
  have HR0 := Aside0.mk hr0
  have HC0 := Aside0.mk hc0
  clear hr0 hc0
  have HR1 := Aside0.mk hr1
  have HC1 := Aside0.mk hc1
  clear hr1 hc1
  have H : (if (l0.length : Int) = (l1.length : Int) then (pomadelaw04_lists.l0 k l0 l1 0) else (some false)) = some r := h
  clear h
  by_cases c3 : (l0.length : Int) = (l1.length : Int)
  · rw [if_pos c3] at H
    have c3b0 : ((l0.length : Int) == (l1.length : Int)) = true := beq_iff_eq.mpr c3
    have c3b1 : ((l0.length : Int) != (l1.length : Int)) = false := bne_eq_false_iff_eq.mpr c3
    have c3b2 : (l0.length == l1.length) = true := by first | simpa using c3 | (simp at c3 ⊢; omega)
    clear c3
    have H' := Aside0.mk H
    clear H
    go_enter Tryd.func29, Tryd.ntmps29
    go_wp2
    repeat (go_quiet (fail); try go_wp2)
    go_loopg [5] k (fun kq v5 w' => ∃ (x5_1 : Int), v5 = .int .i64 x5_1 ∧ Aside0 (pomadelaw04_lists.l0 kq l0 l1 x5_1 = some r) ∧ Aside0 (kq ≤ k) ∧ Drawn0 w w')
    case atStart => exact ⟨(0), (by first | rfl | (simp; done) | (simp [*]; done)), H', ⟨Nat.le_refl _⟩, by repeat (first | exact Drawn0.refl _ | apply Drawn0.step)⟩
    case round =>
      clear H'
      try clear c1
      try clear c2
      try clear p2
      try clear c3
      try clear c3b0
      try clear c3b1
      try clear c3b2
      obtain ⟨x5_1, rfl, HA, HK1, ⟨m1, rfl⟩⟩ := hrel
      cases gk with
      | zero => exact absurd HA.out (by simp [pomadelaw04_lists.l0])
      | succ k1 =>
        have H := HA.out
        clear HA
        simp only [pomadelaw04_lists.l0] at H
        by_cases c4 : x5_1 < (l0.length : Int)
        · rw [if_pos c4] at H
          have c4b0 : decide (x5_1 < (l0.length : Int)) = true := decide_eq_true c4
          clear c4
          by_cases c5 : 0 ≤ x5_1
          · rw [if_pos c5] at H
            have c5b0 : decide (0 ≤ x5_1) = true := decide_eq_true c5
            clear c5
            by_cases c6 : x5_1 < (l1.length : Int)
            · rw [if_pos c6] at H
              have c6b0 : decide (x5_1 < (l1.length : Int)) = true := decide_eq_true c6
              clear c6
              replace H := Option.bind_eq_some_iff.mp H
              obtain ⟨t250, A70, H⟩ := H
              replace H : (if t250 = true then (pomadelaw04_lists.l0 k1 l0 l1 (wrap64 (x5_1 + 1))) else (some false)) = some r := H
              have A7 := Aside0.mk A70
              clear A70
              by_cases c8 : t250 = true
              · subst c8
                have H1 : (pomadelaw04_lists.l0 k1 l0 l1 (wrap64 (x5_1 + 1))) = some r := by rw [if_pos rfl] at H; exact H
                clear H
                have H := H1
                clear H1
                have H' := Aside0.mk H
                clear H
                have p248 : 0 ≤ (x5_1 : Int) := of_decide_eq_true (by first | (with_reducible assumption) | assumption)
                have q248 : x5_1 < (l0.length : Int) := of_decide_eq_true (by first | (with_reducible assumption) | assumption)
                obtain ⟨ad248, A248_0, c248_0, e248, hx248_0, hl248_0, hi248_0⟩ := at_L3 HR0.out x5_1 p248 q248
                cases e248
                have HR248_0 := Aside0.mk hi248_0
                have HC248_0 := Aside0.mk hl248_0
                clear hi248_0 hl248_0
                replace p248 := eq_true p248
                replace q248 := eq_true q248
                have p249 : 0 ≤ (x5_1 : Int) := of_decide_eq_true (by first | (with_reducible assumption) | assumption)
                have q249 : x5_1 < (l1.length : Int) := of_decide_eq_true (by first | (with_reducible assumption) | assumption)
                obtain ⟨ad249, A249_0, c249_0, e249, hx249_0, hl249_0, hi249_0⟩ := at_L3 HR1.out x5_1 p249 q249
                cases e249
                have HR249_0 := Aside0.mk hi249_0
                have HC249_0 := Aside0.mk hl249_0
                clear hi249_0 hl249_0
                replace p249 := eq_true p249
                replace q249 := eq_true q249
                go_wp2_with (first | (go_at_call 33; (with_reducible refine (pomadelaw04_same.calls k1 _ _ (rd_L3 l0 x5_1) _ _ (rd_L3 l1 x5_1) true _ ?side1 ?side2 ?side3 ?side4 A7.out).mono ?_); (case side1 => repeat (first | exact HR248_0.out | (with_reducible refine Kd.C_alloc ?_ _) | (with_reducible refine Kd.C_drewN ?_ _) | (with_reducible refine Kd.C_drew ?_))); (case side2 => exact HC248_0.out); (case side3 => repeat (first | exact HR249_0.out | (with_reducible refine Kd.C_alloc ?_ _) | (with_reducible refine Kd.C_drewN ?_ _) | (with_reducible refine Kd.C_drew ?_))); (case side4 => exact HC249_0.out); rintro e w' ⟨rfl, ⟨nd, rfl⟩⟩; (try first | exact ⟨rfl, _, World.drewN_drewN _ _ _⟩ | exact ⟨rfl, _, Eq.trans (World.drewN_drewN _ _ _) (congrArg (World.drewN _) (Nat.add_assoc _ _ _))⟩)))
                repeat (go_quiet (first | (go_at_call 33; (with_reducible refine (pomadelaw04_same.calls k1 _ _ (rd_L3 l0 x5_1) _ _ (rd_L3 l1 x5_1) true _ ?side1 ?side2 ?side3 ?side4 A7.out).mono ?_); (case side1 => repeat (first | exact HR248_0.out | (with_reducible refine Kd.C_alloc ?_ _) | (with_reducible refine Kd.C_drewN ?_ _) | (with_reducible refine Kd.C_drew ?_))); (case side2 => exact HC248_0.out); (case side3 => repeat (first | exact HR249_0.out | (with_reducible refine Kd.C_alloc ?_ _) | (with_reducible refine Kd.C_drewN ?_ _) | (with_reducible refine Kd.C_drew ?_))); (case side4 => exact HC249_0.out); rintro e w' ⟨rfl, ⟨nd, rfl⟩⟩; (try first | exact ⟨rfl, _, World.drewN_drewN _ _ _⟩ | exact ⟨rfl, _, Eq.trans (World.drewN_drewN _ _ _) (congrArg (World.drewN _) (Nat.add_assoc _ _ _))⟩))); try go_wp2_with (first | (go_at_call 33; (with_reducible refine (pomadelaw04_same.calls k1 _ _ (rd_L3 l0 x5_1) _ _ (rd_L3 l1 x5_1) true _ ?side1 ?side2 ?side3 ?side4 A7.out).mono ?_); (case side1 => repeat (first | exact HR248_0.out | (with_reducible refine Kd.C_alloc ?_ _) | (with_reducible refine Kd.C_drewN ?_ _) | (with_reducible refine Kd.C_drew ?_))); (case side2 => exact HC248_0.out); (case side3 => repeat (first | exact HR249_0.out | (with_reducible refine Kd.C_alloc ?_ _) | (with_reducible refine Kd.C_drewN ?_ _) | (with_reducible refine Kd.C_drew ?_))); (case side4 => exact HC249_0.out); rintro e w' ⟨rfl, ⟨nd, rfl⟩⟩; (try first | exact ⟨rfl, _, World.drewN_drewN _ _ _⟩ | exact ⟨rfl, _, Eq.trans (World.drewN_drewN _ _ _) (congrArg (World.drewN _) (Nat.add_assoc _ _ _))⟩))))
                go_roundg k1
                case measure => have := HK1.out; omega
                case rel => exact ⟨(wrap64 (x5_1 + 1)), (by first | rfl | (simp; done) | (simp [*]; done)), H', ⟨by have := HK1.out; omega⟩, by repeat (first | exact Drawn0.refl _ | apply Drawn0.step)⟩
              · replace c8 := Bool.eq_false_iff.mpr c8
                subst c8
                have H1 : (some false) = some r := by rw [if_neg (show ¬ (false = true) by decide)] at H; exact H
                clear H
                have H := H1
                clear H1
                obtain rfl := Option.some.inj H
                have p248 : 0 ≤ (x5_1 : Int) := of_decide_eq_true (by first | (with_reducible assumption) | assumption)
                have q248 : x5_1 < (l0.length : Int) := of_decide_eq_true (by first | (with_reducible assumption) | assumption)
                obtain ⟨ad248, A248_0, c248_0, e248, hx248_0, hl248_0, hi248_0⟩ := at_L3 HR0.out x5_1 p248 q248
                cases e248
                have HR248_0 := Aside0.mk hi248_0
                have HC248_0 := Aside0.mk hl248_0
                clear hi248_0 hl248_0
                replace p248 := eq_true p248
                replace q248 := eq_true q248
                have p249 : 0 ≤ (x5_1 : Int) := of_decide_eq_true (by first | (with_reducible assumption) | assumption)
                have q249 : x5_1 < (l1.length : Int) := of_decide_eq_true (by first | (with_reducible assumption) | assumption)
                obtain ⟨ad249, A249_0, c249_0, e249, hx249_0, hl249_0, hi249_0⟩ := at_L3 HR1.out x5_1 p249 q249
                cases e249
                have HR249_0 := Aside0.mk hi249_0
                have HC249_0 := Aside0.mk hl249_0
                clear hi249_0 hl249_0
                replace p249 := eq_true p249
                replace q249 := eq_true q249
                go_wp2_with (first | (go_at_call 33; (with_reducible refine (pomadelaw04_same.calls k1 _ _ (rd_L3 l0 x5_1) _ _ (rd_L3 l1 x5_1) false _ ?side1 ?side2 ?side3 ?side4 A7.out).mono ?_); (case side1 => repeat (first | exact HR248_0.out | (with_reducible refine Kd.C_alloc ?_ _) | (with_reducible refine Kd.C_drewN ?_ _) | (with_reducible refine Kd.C_drew ?_))); (case side2 => exact HC248_0.out); (case side3 => repeat (first | exact HR249_0.out | (with_reducible refine Kd.C_alloc ?_ _) | (with_reducible refine Kd.C_drewN ?_ _) | (with_reducible refine Kd.C_drew ?_))); (case side4 => exact HC249_0.out); rintro e w' ⟨rfl, ⟨nd, rfl⟩⟩; (try first | exact ⟨rfl, _, World.drewN_drewN _ _ _⟩ | exact ⟨rfl, _, Eq.trans (World.drewN_drewN _ _ _) (congrArg (World.drewN _) (Nat.add_assoc _ _ _))⟩)))
                repeat (go_quiet (first | (go_at_call 33; (with_reducible refine (pomadelaw04_same.calls k1 _ _ (rd_L3 l0 x5_1) _ _ (rd_L3 l1 x5_1) false _ ?side1 ?side2 ?side3 ?side4 A7.out).mono ?_); (case side1 => repeat (first | exact HR248_0.out | (with_reducible refine Kd.C_alloc ?_ _) | (with_reducible refine Kd.C_drewN ?_ _) | (with_reducible refine Kd.C_drew ?_))); (case side2 => exact HC248_0.out); (case side3 => repeat (first | exact HR249_0.out | (with_reducible refine Kd.C_alloc ?_ _) | (with_reducible refine Kd.C_drewN ?_ _) | (with_reducible refine Kd.C_drew ?_))); (case side4 => exact HC249_0.out); rintro e w' ⟨rfl, ⟨nd, rfl⟩⟩; (try first | exact ⟨rfl, _, World.drewN_drewN _ _ _⟩ | exact ⟨rfl, _, Eq.trans (World.drewN_drewN _ _ _) (congrArg (World.drewN _) (Nat.add_assoc _ _ _))⟩))); try go_wp2_with (first | (go_at_call 33; (with_reducible refine (pomadelaw04_same.calls k1 _ _ (rd_L3 l0 x5_1) _ _ (rd_L3 l1 x5_1) false _ ?side1 ?side2 ?side3 ?side4 A7.out).mono ?_); (case side1 => repeat (first | exact HR248_0.out | (with_reducible refine Kd.C_alloc ?_ _) | (with_reducible refine Kd.C_drewN ?_ _) | (with_reducible refine Kd.C_drew ?_))); (case side2 => exact HC248_0.out); (case side3 => repeat (first | exact HR249_0.out | (with_reducible refine Kd.C_alloc ?_ _) | (with_reducible refine Kd.C_drewN ?_ _) | (with_reducible refine Kd.C_drew ?_))); (case side4 => exact HC249_0.out); rintro e w' ⟨rfl, ⟨nd, rfl⟩⟩; (try first | exact ⟨rfl, _, World.drewN_drewN _ _ _⟩ | exact ⟨rfl, _, Eq.trans (World.drewN_drewN _ _ _) (congrArg (World.drewN _) (Nat.add_assoc _ _ _))⟩))))
                go_ret
                exact ⟨by first | rfl | (simp; done) | (simp [*]; done), by repeat (first | exact Drawn0.refl _ | apply Drawn0.step)⟩
            · rw [if_neg c6] at H
              exact absurd H (by simp)
          · rw [if_neg c5] at H
            exact absurd H (by simp)
        · rw [if_neg c4] at H
          have c4b0 : decide (x5_1 < (l0.length : Int)) = false := decide_eq_false c4
          clear c4
          obtain rfl := Option.some.inj H
          go_wp2
          repeat (go_quiet (fail); try go_wp2)
          go_ret
          exact ⟨by first | rfl | (simp; done) | (simp [*]; done), by repeat (first | exact Drawn0.refl _ | apply Drawn0.step)⟩
  · rw [if_neg c3] at H
    have c3b0 : ((l0.length : Int) == (l1.length : Int)) = false := beq_eq_false_iff_ne.mpr c3
    have c3b1 : ((l0.length : Int) != (l1.length : Int)) = true := bne_iff_ne.mpr c3
    have c3b2 : (l0.length == l1.length) = false := by first | simpa using c3 | (simp at c3 ⊢; omega)
    obtain rfl := Option.some.inj H
    go_enter Tryd.func29, Tryd.ntmps29
    go_wp2
    repeat (go_quiet (fail); try go_wp2)
    go_ret
    exact ⟨by first | rfl | (simp; done) | (simp [*]; done), by repeat (first | exact Drawn0.refl _ | apply Drawn0.step)⟩
def pomaderef04_Many.l0 : Nat → ByteArray → Int → Int → Int → Option (Int)
  | 0, _, _, _, _ => none
  | k + 1, x0, x1, x5, x6 => if x6 < (x0.size : Int) then (if 0 ≤ x6 then (if (bt x0 x6) = x1 then (pomaderef04_Many.l0 k x0 x1 (wrap64 (x5 + 1)) (wrap64 (x6 + 1))) else (pomaderef04_Many.l0 k x0 x1 x5 (wrap64 (x6 + 1)))) else (none)) else (some x5)
def pomaderef04_Many.f (k : Nat) (a0 : ByteArray) (a1 : Int) : Option (Int) := pomaderef04_Many.l0 k a0 a1 0 0
theorem pomaderef04_Many.mono_l : ∀ k, (∀ y0 y1 y2 y3, LeO (pomaderef04_Many.l0 k y0 y1 y2 y3) (pomaderef04_Many.l0 (k + 1) y0 y1 y2 y3))
  | 0 => fun _ _ _ _ r h => by simp [pomaderef04_Many.l0] at h
  | k + 1 => by
    have ih0 := pomaderef04_Many.mono_l k
    · intro y0 y1 y2 y3
      unfold pomaderef04_Many.l0
      repeat' first
      | (with_reducible exact ih0 _ _ _ _)
      | (with_reducible exact LeO.refl _)
      | (with_reducible exact LeO.none _)
      | (with_reducible refine LeO.ite ?_ ?_)
      | (with_reducible refine LeO.bind ?_ (fun _ => ?_))
      | exact ih0 _ _ _ _
      | exact LeO.none _
      | refine LeO.ite ?_ ?_
      | refine LeO.bind ?_ (fun _ => ?_)
theorem pomaderef04_Many.mono : ∀ a0 a1 k, LeO (pomaderef04_Many.f k a0 a1) (pomaderef04_Many.f (k + 1) a0 a1) := by
  intro a0 a1 k
  have ih0 := pomaderef04_Many.mono_l k
  unfold pomaderef04_Many.f
  repeat' first
      | (with_reducible exact ih0 _ _ _ _)
      | (with_reducible exact LeO.refl _)
      | (with_reducible exact LeO.none _)
      | (with_reducible refine LeO.ite ?_ ?_)
      | (with_reducible refine LeO.bind ?_ (fun _ => ?_))
      | exact ih0 _ _ _ _
      | exact LeO.none _
      | refine LeO.ite ?_ ?_
      | refine LeO.bind ?_ (fun _ => ?_)
set_option maxHeartbeats 8000000 in
set_option maxRecDepth 100000 in
theorem pomaderef04_Many.calls (k : Nat) (a0 : ByteArray) (a1 : Int) (r : Int) (w : World) (h : pomaderef04_Many.f k a0 a1 = some r) :
    Calls Tryd.prog 16 #[.string a0, .int .u8 a1] w fun e w' => e = .returned (.int .i64 r) ∧ Drawn0 w w' := by
  have H : (pomaderef04_Many.l0 k a0 a1 0 0) = some r := h
  clear h
  have H' := Aside0.mk H
  clear H
  go_enter Tryd.func16, Tryd.ntmps16
  go_wp2
  go_loopg [5, 6] k (fun kq v5 v6 w' => ∃ (x5_1 : Int) (x6_1 : Int), v5 = .int .i64 x5_1 ∧ v6 = .int .i64 x6_1 ∧ Aside0 (pomaderef04_Many.l0 kq a0 a1 x5_1 x6_1 = some r) ∧ Aside0 (kq ≤ k) ∧ Drawn0 w w')
  case atStart => exact ⟨(0), (0), (by first | rfl | (simp; done) | (simp [*]; done)), (by first | rfl | (simp; done) | (simp [*]; done)), H', ⟨Nat.le_refl _⟩, by repeat (first | exact Drawn0.refl _ | apply Drawn0.step)⟩
  case round =>
    clear H'
    try clear c1
    try clear p2
    obtain ⟨x5_1, x6_1, rfl, rfl, HA, HK1, ⟨m1, rfl⟩⟩ := hrel
    cases gk with
    | zero => exact absurd HA.out (by simp [pomaderef04_Many.l0])
    | succ k1 =>
      have H := HA.out
      clear HA
      simp only [pomaderef04_Many.l0] at H
      by_cases c3 : x6_1 < (a0.size : Int)
      · rw [if_pos c3] at H
        have c3b0 : decide (x6_1 < (a0.size : Int)) = true := decide_eq_true c3
        clear c3
        by_cases c4 : 0 ≤ x6_1
        · rw [if_pos c4] at H
          have c4b0 : decide (0 ≤ x6_1) = true := decide_eq_true c4
          clear c4
          by_cases c6 : (bt a0 x6_1) = a1
          · rw [if_pos c6] at H
            have c6b0 : ((bt a0 x6_1) == a1) = true := beq_iff_eq.mpr c6
            have c6b1 : ((bt a0 x6_1) != a1) = false := bne_eq_false_iff_eq.mpr c6
            clear c6
            have H' := Aside0.mk H
            clear H
            have p5 : 0 ≤ (x6_1 : Int) := of_decide_eq_true (by first | (with_reducible assumption) | assumption)
            have q5 : x6_1 < (a0.size : Int) := of_decide_eq_true (by first | (with_reducible assumption) | assumption)
            have hx5 := bt_at a0 x6_1
            replace p5 := eq_true p5
            replace q5 := eq_true q5
            go_wp2
            go_roundg k1
            case measure => have := HK1.out; omega
            case rel => exact ⟨(wrap64 (x5_1 + 1)), (wrap64 (x6_1 + 1)), (by first | rfl | (simp; done) | (simp [*]; done)), (by first | rfl | (simp; done) | (simp [*]; done)), H', ⟨by have := HK1.out; omega⟩, by repeat (first | exact Drawn0.refl _ | apply Drawn0.step)⟩
          · rw [if_neg c6] at H
            have c6b0 : ((bt a0 x6_1) == a1) = false := beq_eq_false_iff_ne.mpr c6
            have c6b1 : ((bt a0 x6_1) != a1) = true := bne_iff_ne.mpr c6
            have H' := Aside0.mk H
            clear H
            have p5 : 0 ≤ (x6_1 : Int) := of_decide_eq_true (by first | (with_reducible assumption) | assumption)
            have q5 : x6_1 < (a0.size : Int) := of_decide_eq_true (by first | (with_reducible assumption) | assumption)
            have hx5 := bt_at a0 x6_1
            replace p5 := eq_true p5
            replace q5 := eq_true q5
            go_wp2
            go_roundg k1
            case measure => have := HK1.out; omega
            case rel => exact ⟨(x5_1), (wrap64 (x6_1 + 1)), (by first | rfl | (simp; done) | (simp [*]; done)), (by first | rfl | (simp; done) | (simp [*]; done)), H', ⟨by have := HK1.out; omega⟩, by repeat (first | exact Drawn0.refl _ | apply Drawn0.step)⟩
        · rw [if_neg c4] at H
          exact absurd H (by simp)
      · rw [if_neg c3] at H
        have c3b0 : decide (x6_1 < (a0.size : Int)) = false := decide_eq_false c3
        clear c3
        obtain rfl := Option.some.inj H
        go_wp2
        go_ret
        exact ⟨by first | rfl | (simp; done) | (simp [*]; done), by repeat (first | exact Drawn0.refl _ | apply Drawn0.step)⟩
mutual
def pomaderef04_Board.j0 : Nat → Int → ByteArray → Bool → Bool → Option (Int)
  | 0, _, _, _, _ => none
  | k + 1, x0, x1, x2, x13 => if x13 = true then (some 2) else (if (x1.size : Int) = (wrap64 (x0 * x0)) then (pomaderef04_Board.l0 k x1 x2 0) else (some 5))
def pomaderef04_Board.l0 : Nat → ByteArray → Bool → Int → Option (Int)
  | 0, _, _, _ => none
  | k + 1, x1, x2, x7 => if x7 < (x1.size : Int) then (if 0 ≤ x7 then (if (bt x1 x7) = 120 then (pomaderef04_Board.l0 k x1 x2 (wrap64 (x7 + 1))) else (if (bt x1 x7) = 111 then (pomaderef04_Board.l0 k x1 x2 (wrap64 (x7 + 1))) else (if (bt x1 x7) = 46 then (if x2 = true then (pomaderef04_Board.l0 k x1 x2 (wrap64 (x7 + 1))) else (some 5)) else (some 5)))) else (none)) else (some 0)
end
def pomaderef04_Board.f (k : Nat) (a0 : Int) (a1 : ByteArray) (a2 : Bool) : Option (Int) := if a0 < 1 then (pomaderef04_Board.j0 k a0 a1 a2 true) else (pomaderef04_Board.j0 k a0 a1 a2 (decide (a0 > 11)))
theorem pomaderef04_Board.mono_l : ∀ k, (∀ y0 y1 y2 y3, LeO (pomaderef04_Board.j0 k y0 y1 y2 y3) (pomaderef04_Board.j0 (k + 1) y0 y1 y2 y3)) ∧ (∀ y0 y1 y2, LeO (pomaderef04_Board.l0 k y0 y1 y2) (pomaderef04_Board.l0 (k + 1) y0 y1 y2))
  | 0 => ⟨fun _ _ _ _ r h => by simp [pomaderef04_Board.j0] at h, fun _ _ _ r h => by simp [pomaderef04_Board.l0] at h⟩
  | k + 1 => by
    obtain ⟨ih0, ih1⟩ := pomaderef04_Board.mono_l k
    refine ⟨?_, ?_⟩
    · intro y0 y1 y2 y3
      unfold pomaderef04_Board.j0
      repeat' first
      | (with_reducible exact ih0 _ _ _ _)
      | (with_reducible exact ih1 _ _ _)
      | (with_reducible exact LeO.refl _)
      | (with_reducible exact LeO.none _)
      | (with_reducible refine LeO.ite ?_ ?_)
      | (with_reducible refine LeO.bind ?_ (fun _ => ?_))
      | exact ih0 _ _ _ _
      | exact ih1 _ _ _
      | exact LeO.none _
      | refine LeO.ite ?_ ?_
      | refine LeO.bind ?_ (fun _ => ?_)
    · intro y0 y1 y2
      unfold pomaderef04_Board.l0
      repeat' first
      | (with_reducible exact ih0 _ _ _ _)
      | (with_reducible exact ih1 _ _ _)
      | (with_reducible exact LeO.refl _)
      | (with_reducible exact LeO.none _)
      | (with_reducible refine LeO.ite ?_ ?_)
      | (with_reducible refine LeO.bind ?_ (fun _ => ?_))
      | exact ih0 _ _ _ _
      | exact ih1 _ _ _
      | exact LeO.none _
      | refine LeO.ite ?_ ?_
      | refine LeO.bind ?_ (fun _ => ?_)
theorem pomaderef04_Board.mono : ∀ a0 a1 a2 k, LeO (pomaderef04_Board.f k a0 a1 a2) (pomaderef04_Board.f (k + 1) a0 a1 a2) := by
  intro a0 a1 a2 k
  obtain ⟨ih0, ih1⟩ := pomaderef04_Board.mono_l k
  unfold pomaderef04_Board.f
  repeat' first
      | (with_reducible exact ih0 _ _ _ _)
      | (with_reducible exact ih1 _ _ _)
      | (with_reducible exact LeO.refl _)
      | (with_reducible exact LeO.none _)
      | (with_reducible refine LeO.ite ?_ ?_)
      | (with_reducible refine LeO.bind ?_ (fun _ => ?_))
      | exact ih0 _ _ _ _
      | exact ih1 _ _ _
      | exact LeO.none _
      | refine LeO.ite ?_ ?_
      | refine LeO.bind ?_ (fun _ => ?_)
set_option maxHeartbeats 8000000 in
set_option maxRecDepth 100000 in
theorem pomaderef04_Board.calls (k : Nat) (a0 : Int) (a1 : ByteArray) (a2 : Bool) (r : Int) (w : World) (h : pomaderef04_Board.f k a0 a1 a2 = some r) :
    Calls Tryd.prog 22 #[.int .i64 a0, .string a1, .bool a2] w fun e w' => e = .returned (.int .i64 r) ∧ Drawn0 w w' := by
  have H : (if a0 < 1 then (pomaderef04_Board.j0 k a0 a1 a2 true) else (pomaderef04_Board.j0 k a0 a1 a2 (decide (a0 > 11)))) = some r := h
  clear h
  have HC4 := Aside0.mk H
  clear H
  go_enter Tryd.func22, Tryd.ntmps22
  go_upto_region 1 with (fail)
  go_cut [13] (fun v13 wc => ∃ (kq : Nat) (x13_3 : Bool), v13 = .bool x13_3 ∧ Aside0 (pomaderef04_Board.j0 kq a0 a1 a2 x13_3 = some r) ∧ Aside0 (kq ≤ k) ∧ Drawn0 w wc)
  case first =>
    have H := HC4.out
    clear HC4
    by_cases c5 : a0 < 1
    · rw [if_pos c5] at H
      have c5b0 : decide (a0 < 1) = true := decide_eq_true c5
      clear c5
      (first | rw [c5b0] | (simp only [i64_w, i32_w]; rw [c5b0]) | skip)
      have H' := Aside0.mk H
      clear H
      go_wp2
      go_meet
      case rel => exact ⟨_, (true), (by first | rfl | (simp; done) | (simp [*]; done)), H', ⟨by first | omega | exact Nat.le_refl _⟩, by repeat (first | exact Drawn0.refl _ | apply Drawn0.step)⟩
    · rw [if_neg c5] at H
      have c5b0 : decide (a0 < 1) = false := decide_eq_false c5
      clear c5
      (first | rw [c5b0] | (simp only [i64_w, i32_w]; rw [c5b0]) | skip)
      have H' := Aside0.mk H
      clear H
      go_wp2
      go_meet
      case rel => exact ⟨_, (decide (a0 > 11)), (by first | rfl | (simp; done) | (simp [*]; done)), H', ⟨by first | omega | exact Nat.le_refl _⟩, by repeat (first | exact Drawn0.refl _ | apply Drawn0.step)⟩
  case rest =>
    clear HC4
    try clear c2
    try clear p2
    try clear c5
    try clear c5b0
    obtain ⟨kq, x13_3, rfl, HA, HJ3, ⟨mc3, rfl⟩⟩ := hcut
    cases kq with
    | zero => exact absurd HA.out (by simp [pomaderef04_Board.j0])
    | succ kj3 =>
      have H := HA.out
      clear HA
      simp only [pomaderef04_Board.j0] at H
      by_cases c6 : x13_3 = true
      · subst c6
        have H1 : (some 2) = some r := by rw [if_pos rfl] at H; exact H
        clear H
        have H := H1
        clear H1
        obtain rfl := Option.some.inj H
        go_wp2
        go_ret
        exact ⟨by first | rfl | (simp; done) | (simp [*]; done), by repeat (first | exact Drawn0.refl _ | apply Drawn0.step)⟩
      · replace c6 := Bool.eq_false_iff.mpr c6
        subst c6
        have H1 : (if (a1.size : Int) = (wrap64 (a0 * a0)) then (pomaderef04_Board.l0 kj3 a1 a2 0) else (some 5)) = some r := by rw [if_neg (show ¬ (false = true) by decide)] at H; exact H
        clear H
        have H := H1
        clear H1
        by_cases c7 : (a1.size : Int) = (wrap64 (a0 * a0))
        · rw [if_pos c7] at H
          have c7b0 : ((a1.size : Int) == (wrap64 (a0 * a0))) = true := beq_iff_eq.mpr c7
          have c7b1 : ((a1.size : Int) != (wrap64 (a0 * a0))) = false := bne_eq_false_iff_eq.mpr c7
          clear c7
          have H' := Aside0.mk H
          clear H
          go_wp2
          go_loopg [7] kj3 (fun kq v7 w' => ∃ (x7_2 : Int), v7 = .int .i64 x7_2 ∧ Aside0 (pomaderef04_Board.l0 kq a1 a2 x7_2 = some r) ∧ Aside0 (kq ≤ kj3) ∧ Drawn0 w w')
          case atStart => exact ⟨(0), (by first | rfl | (simp; done) | (simp [*]; done)), H', ⟨Nat.le_refl _⟩, by repeat (first | exact Drawn0.refl _ | apply Drawn0.step)⟩
          case round =>
            clear H'
            try clear c2
            try clear p2
            try clear c3
            try clear c5
            try clear c5b0
            try clear c6
            try clear p6
            try clear c7
            try clear c7b0
            try clear c7b1
            try clear p2
            obtain ⟨x7_2, rfl, HA, HK2, ⟨m2, rfl⟩⟩ := hrel
            cases gk with
            | zero => exact absurd HA.out (by simp [pomaderef04_Board.l0])
            | succ k2 =>
              have H := HA.out
              clear HA
              simp only [pomaderef04_Board.l0] at H
              by_cases c8 : x7_2 < (a1.size : Int)
              · rw [if_pos c8] at H
                have c8b0 : decide (x7_2 < (a1.size : Int)) = true := decide_eq_true c8
                clear c8
                by_cases c9 : 0 ≤ x7_2
                · rw [if_pos c9] at H
                  have c9b0 : decide (0 ≤ x7_2) = true := decide_eq_true c9
                  clear c9
                  by_cases c11 : (bt a1 x7_2) = 120
                  · rw [if_pos c11] at H
                    have c11b0 : ((bt a1 x7_2) == 120) = true := beq_iff_eq.mpr c11
                    have c11b1 : ((bt a1 x7_2) != 120) = false := bne_eq_false_iff_eq.mpr c11
                    clear c11
                    have H' := Aside0.mk H
                    clear H
                    have p10 : 0 ≤ (x7_2 : Int) := of_decide_eq_true (by first | (with_reducible assumption) | assumption)
                    have q10 : x7_2 < (a1.size : Int) := of_decide_eq_true (by first | (with_reducible assumption) | assumption)
                    have hx10 := bt_at a1 x7_2
                    replace p10 := eq_true p10
                    replace q10 := eq_true q10
                    go_wp2
                    go_roundg k2
                    case measure => have := HJ3.out; have := HK2.out; omega
                    case rel => exact ⟨(wrap64 (x7_2 + 1)), (by first | rfl | (simp; done) | (simp [*]; done)), H', ⟨by have := HJ3.out; have := HK2.out; omega⟩, by repeat (first | exact Drawn0.refl _ | apply Drawn0.step)⟩
                  · rw [if_neg c11] at H
                    have c11b0 : ((bt a1 x7_2) == 120) = false := beq_eq_false_iff_ne.mpr c11
                    have c11b1 : ((bt a1 x7_2) != 120) = true := bne_iff_ne.mpr c11
                    by_cases c13 : (bt a1 x7_2) = 111
                    · rw [if_pos c13] at H
                      have c13b0 : ((bt a1 x7_2) == 111) = true := beq_iff_eq.mpr c13
                      have c13b1 : ((bt a1 x7_2) != 111) = false := bne_eq_false_iff_eq.mpr c13
                      clear c13
                      have H' := Aside0.mk H
                      clear H
                      have p10 : 0 ≤ (x7_2 : Int) := of_decide_eq_true (by first | (with_reducible assumption) | assumption)
                      have q10 : x7_2 < (a1.size : Int) := of_decide_eq_true (by first | (with_reducible assumption) | assumption)
                      have hx10 := bt_at a1 x7_2
                      replace p10 := eq_true p10
                      replace q10 := eq_true q10
                      have p12 : 0 ≤ (x7_2 : Int) := of_decide_eq_true (by first | (with_reducible assumption) | assumption)
                      have q12 : x7_2 < (a1.size : Int) := of_decide_eq_true (by first | (with_reducible assumption) | assumption)
                      have hx12 := bt_at a1 x7_2
                      replace p12 := eq_true p12
                      replace q12 := eq_true q12
                      go_wp2
                      go_roundg k2
                      case measure => have := HJ3.out; have := HK2.out; omega
                      case rel => exact ⟨(wrap64 (x7_2 + 1)), (by first | rfl | (simp; done) | (simp [*]; done)), H', ⟨by have := HJ3.out; have := HK2.out; omega⟩, by repeat (first | exact Drawn0.refl _ | apply Drawn0.step)⟩
                    · rw [if_neg c13] at H
                      have c13b0 : ((bt a1 x7_2) == 111) = false := beq_eq_false_iff_ne.mpr c13
                      have c13b1 : ((bt a1 x7_2) != 111) = true := bne_iff_ne.mpr c13
                      by_cases c15 : (bt a1 x7_2) = 46
                      · rw [if_pos c15] at H
                        have c15b0 : ((bt a1 x7_2) == 46) = true := beq_iff_eq.mpr c15
                        have c15b1 : ((bt a1 x7_2) != 46) = false := bne_eq_false_iff_eq.mpr c15
                        clear c15
                        by_cases c16 : a2 = true
                        · subst c16
                          have H1 : (pomaderef04_Board.l0 k2 a1 true (wrap64 (x7_2 + 1))) = some r := by rw [if_pos rfl] at H; exact H
                          clear H
                          have H := H1
                          clear H1
                          have H' := Aside0.mk H
                          clear H
                          have p10 : 0 ≤ (x7_2 : Int) := of_decide_eq_true (by first | (with_reducible assumption) | assumption)
                          have q10 : x7_2 < (a1.size : Int) := of_decide_eq_true (by first | (with_reducible assumption) | assumption)
                          have hx10 := bt_at a1 x7_2
                          replace p10 := eq_true p10
                          replace q10 := eq_true q10
                          have p12 : 0 ≤ (x7_2 : Int) := of_decide_eq_true (by first | (with_reducible assumption) | assumption)
                          have q12 : x7_2 < (a1.size : Int) := of_decide_eq_true (by first | (with_reducible assumption) | assumption)
                          have hx12 := bt_at a1 x7_2
                          replace p12 := eq_true p12
                          replace q12 := eq_true q12
                          have p14 : 0 ≤ (x7_2 : Int) := of_decide_eq_true (by first | (with_reducible assumption) | assumption)
                          have q14 : x7_2 < (a1.size : Int) := of_decide_eq_true (by first | (with_reducible assumption) | assumption)
                          have hx14 := bt_at a1 x7_2
                          replace p14 := eq_true p14
                          replace q14 := eq_true q14
                          go_wp2
                          go_roundg k2
                          case measure => have := HJ3.out; have := HK2.out; omega
                          case rel => exact ⟨(wrap64 (x7_2 + 1)), (by first | rfl | (simp; done) | (simp [*]; done)), H', ⟨by have := HJ3.out; have := HK2.out; omega⟩, by repeat (first | exact Drawn0.refl _ | apply Drawn0.step)⟩
                        · replace c16 := Bool.eq_false_iff.mpr c16
                          subst c16
                          have H1 : (some 5) = some r := by rw [if_neg (show ¬ (false = true) by decide)] at H; exact H
                          clear H
                          have H := H1
                          clear H1
                          obtain rfl := Option.some.inj H
                          have p10 : 0 ≤ (x7_2 : Int) := of_decide_eq_true (by first | (with_reducible assumption) | assumption)
                          have q10 : x7_2 < (a1.size : Int) := of_decide_eq_true (by first | (with_reducible assumption) | assumption)
                          have hx10 := bt_at a1 x7_2
                          replace p10 := eq_true p10
                          replace q10 := eq_true q10
                          have p12 : 0 ≤ (x7_2 : Int) := of_decide_eq_true (by first | (with_reducible assumption) | assumption)
                          have q12 : x7_2 < (a1.size : Int) := of_decide_eq_true (by first | (with_reducible assumption) | assumption)
                          have hx12 := bt_at a1 x7_2
                          replace p12 := eq_true p12
                          replace q12 := eq_true q12
                          have p14 : 0 ≤ (x7_2 : Int) := of_decide_eq_true (by first | (with_reducible assumption) | assumption)
                          have q14 : x7_2 < (a1.size : Int) := of_decide_eq_true (by first | (with_reducible assumption) | assumption)
                          have hx14 := bt_at a1 x7_2
                          replace p14 := eq_true p14
                          replace q14 := eq_true q14
                          go_wp2
                          go_ret
                          exact ⟨by first | rfl | (simp; done) | (simp [*]; done), by repeat (first | exact Drawn0.refl _ | apply Drawn0.step)⟩
                      · rw [if_neg c15] at H
                        have c15b0 : ((bt a1 x7_2) == 46) = false := beq_eq_false_iff_ne.mpr c15
                        have c15b1 : ((bt a1 x7_2) != 46) = true := bne_iff_ne.mpr c15
                        obtain rfl := Option.some.inj H
                        have p10 : 0 ≤ (x7_2 : Int) := of_decide_eq_true (by first | (with_reducible assumption) | assumption)
                        have q10 : x7_2 < (a1.size : Int) := of_decide_eq_true (by first | (with_reducible assumption) | assumption)
                        have hx10 := bt_at a1 x7_2
                        replace p10 := eq_true p10
                        replace q10 := eq_true q10
                        have p12 : 0 ≤ (x7_2 : Int) := of_decide_eq_true (by first | (with_reducible assumption) | assumption)
                        have q12 : x7_2 < (a1.size : Int) := of_decide_eq_true (by first | (with_reducible assumption) | assumption)
                        have hx12 := bt_at a1 x7_2
                        replace p12 := eq_true p12
                        replace q12 := eq_true q12
                        have p14 : 0 ≤ (x7_2 : Int) := of_decide_eq_true (by first | (with_reducible assumption) | assumption)
                        have q14 : x7_2 < (a1.size : Int) := of_decide_eq_true (by first | (with_reducible assumption) | assumption)
                        have hx14 := bt_at a1 x7_2
                        replace p14 := eq_true p14
                        replace q14 := eq_true q14
                        go_wp2
                        go_ret
                        exact ⟨by first | rfl | (simp; done) | (simp [*]; done), by repeat (first | exact Drawn0.refl _ | apply Drawn0.step)⟩
                · rw [if_neg c9] at H
                  exact absurd H (by simp)
              · rw [if_neg c8] at H
                have c8b0 : decide (x7_2 < (a1.size : Int)) = false := decide_eq_false c8
                clear c8
                obtain rfl := Option.some.inj H
                go_wp2
                go_ret
                exact ⟨by first | rfl | (simp; done) | (simp [*]; done), by repeat (first | exact Drawn0.refl _ | apply Drawn0.step)⟩
        · rw [if_neg c7] at H
          have c7b0 : ((a1.size : Int) == (wrap64 (a0 * a0))) = false := beq_eq_false_iff_ne.mpr c7
          have c7b1 : ((a1.size : Int) != (wrap64 (a0 * a0))) = true := bne_iff_ne.mpr c7
          obtain rfl := Option.some.inj H
          go_wp2
          go_ret
          exact ⟨by first | rfl | (simp; done) | (simp [*]; done), by repeat (first | exact Drawn0.refl _ | apply Drawn0.step)⟩
def pomaderef04_Near.f (a0 : Int) (a1 : Int) (a2 : Int) : Option (Bool) := if a0 = 0 then (none) else (if (wrap64 ((wrap64 (Int.tdiv a2 a0)) - (wrap64 (Int.tdiv a1 a0)))) = 0 then (if (wrap64 ((Int.tmod a2 a0) - (Int.tmod a1 a0))) = 1 then (some true) else (if (wrap64 ((Int.tmod a2 a0) - (Int.tmod a1 a0))) = (-1) then (some true) else (if (wrap64 ((wrap64 (Int.tdiv a2 a0)) - (wrap64 (Int.tdiv a1 a0)))) = (-1) then (if (wrap64 ((Int.tmod a2 a0) - (Int.tmod a1 a0))) = 0 then (some true) else (if (wrap64 ((wrap64 (Int.tdiv a2 a0)) - (wrap64 (Int.tdiv a1 a0)))) = 1 then (some ((wrap64 ((Int.tmod a2 a0) - (Int.tmod a1 a0))) == 0)) else (some false))) else (if (wrap64 ((wrap64 (Int.tdiv a2 a0)) - (wrap64 (Int.tdiv a1 a0)))) = 1 then (some ((wrap64 ((Int.tmod a2 a0) - (Int.tmod a1 a0))) == 0)) else (some false))))) else (if (wrap64 ((wrap64 (Int.tdiv a2 a0)) - (wrap64 (Int.tdiv a1 a0)))) = (-1) then (if (wrap64 ((Int.tmod a2 a0) - (Int.tmod a1 a0))) = 0 then (some true) else (if (wrap64 ((Int.tmod a2 a0) - (Int.tmod a1 a0))) = 1 then (some true) else (if (wrap64 ((wrap64 (Int.tdiv a2 a0)) - (wrap64 (Int.tdiv a1 a0)))) = 1 then (if (wrap64 ((Int.tmod a2 a0) - (Int.tmod a1 a0))) = (-1) then (some true) else (some ((wrap64 ((Int.tmod a2 a0) - (Int.tmod a1 a0))) == 0))) else (some false)))) else (if (wrap64 ((wrap64 (Int.tdiv a2 a0)) - (wrap64 (Int.tdiv a1 a0)))) = 1 then (if (wrap64 ((Int.tmod a2 a0) - (Int.tmod a1 a0))) = (-1) then (some true) else (some ((wrap64 ((Int.tmod a2 a0) - (Int.tmod a1 a0))) == 0))) else (some false))))
set_option maxHeartbeats 8000000 in
set_option maxRecDepth 100000 in
theorem pomaderef04_Near.calls (a0 : Int) (a1 : Int) (a2 : Int) (r : Bool) (w : World) (h : pomaderef04_Near.f a0 a1 a2 = some r) :
    Calls Tryd.prog 68 #[.int .i64 a0, .int .i64 a1, .int .i64 a2] w fun e w' => e = .returned (.bool r) ∧ Drawn0 w w' := by
  have H : (if a0 = 0 then (none) else (if (wrap64 ((wrap64 (Int.tdiv a2 a0)) - (wrap64 (Int.tdiv a1 a0)))) = 0 then (if (wrap64 ((Int.tmod a2 a0) - (Int.tmod a1 a0))) = 1 then (some true) else (if (wrap64 ((Int.tmod a2 a0) - (Int.tmod a1 a0))) = (-1) then (some true) else (if (wrap64 ((wrap64 (Int.tdiv a2 a0)) - (wrap64 (Int.tdiv a1 a0)))) = (-1) then (if (wrap64 ((Int.tmod a2 a0) - (Int.tmod a1 a0))) = 0 then (some true) else (if (wrap64 ((wrap64 (Int.tdiv a2 a0)) - (wrap64 (Int.tdiv a1 a0)))) = 1 then (some ((wrap64 ((Int.tmod a2 a0) - (Int.tmod a1 a0))) == 0)) else (some false))) else (if (wrap64 ((wrap64 (Int.tdiv a2 a0)) - (wrap64 (Int.tdiv a1 a0)))) = 1 then (some ((wrap64 ((Int.tmod a2 a0) - (Int.tmod a1 a0))) == 0)) else (some false))))) else (if (wrap64 ((wrap64 (Int.tdiv a2 a0)) - (wrap64 (Int.tdiv a1 a0)))) = (-1) then (if (wrap64 ((Int.tmod a2 a0) - (Int.tmod a1 a0))) = 0 then (some true) else (if (wrap64 ((Int.tmod a2 a0) - (Int.tmod a1 a0))) = 1 then (some true) else (if (wrap64 ((wrap64 (Int.tdiv a2 a0)) - (wrap64 (Int.tdiv a1 a0)))) = 1 then (if (wrap64 ((Int.tmod a2 a0) - (Int.tmod a1 a0))) = (-1) then (some true) else (some ((wrap64 ((Int.tmod a2 a0) - (Int.tmod a1 a0))) == 0))) else (some false)))) else (if (wrap64 ((wrap64 (Int.tdiv a2 a0)) - (wrap64 (Int.tdiv a1 a0)))) = 1 then (if (wrap64 ((Int.tmod a2 a0) - (Int.tmod a1 a0))) = (-1) then (some true) else (some ((wrap64 ((Int.tmod a2 a0) - (Int.tmod a1 a0))) == 0))) else (some false))))) = some r := h
  clear h
  by_cases c4 : a0 = 0
  · rw [if_pos c4] at H
    exact absurd H (by simp)
  · rw [if_neg c4] at H
    have c4b0 : (a0 == 0) = false := beq_eq_false_iff_ne.mpr c4
    have c4b1 : (a0 != 0) = true := bne_iff_ne.mpr c4
    by_cases c5 : (wrap64 ((wrap64 (Int.tdiv a2 a0)) - (wrap64 (Int.tdiv a1 a0)))) = 0
    · rw [if_pos c5] at H
      have c5b0 : ((wrap64 ((wrap64 (Int.tdiv a2 a0)) - (wrap64 (Int.tdiv a1 a0)))) == 0) = true := beq_iff_eq.mpr c5
      have c5b1 : ((wrap64 ((wrap64 (Int.tdiv a2 a0)) - (wrap64 (Int.tdiv a1 a0)))) != 0) = false := bne_eq_false_iff_eq.mpr c5
      clear c5
      by_cases c6 : (wrap64 ((Int.tmod a2 a0) - (Int.tmod a1 a0))) = 1
      · rw [if_pos c6] at H
        have c6b0 : ((wrap64 ((Int.tmod a2 a0) - (Int.tmod a1 a0))) == 1) = true := beq_iff_eq.mpr c6
        have c6b1 : ((wrap64 ((Int.tmod a2 a0) - (Int.tmod a1 a0))) != 1) = false := bne_eq_false_iff_eq.mpr c6
        clear c6
        obtain rfl := Option.some.inj H
        go_enter Tryd.func68, Tryd.ntmps68
        go_wp2
        repeat (go_quiet (fail); try go_wp2)
        go_ret
        exact ⟨by first | rfl | (simp; done) | (simp [*]; done), by repeat (first | exact Drawn0.refl _ | apply Drawn0.step)⟩
      · rw [if_neg c6] at H
        have c6b0 : ((wrap64 ((Int.tmod a2 a0) - (Int.tmod a1 a0))) == 1) = false := beq_eq_false_iff_ne.mpr c6
        have c6b1 : ((wrap64 ((Int.tmod a2 a0) - (Int.tmod a1 a0))) != 1) = true := bne_iff_ne.mpr c6
        by_cases c7 : (wrap64 ((Int.tmod a2 a0) - (Int.tmod a1 a0))) = (-1)
        · rw [if_pos c7] at H
          have c7b0 : ((wrap64 ((Int.tmod a2 a0) - (Int.tmod a1 a0))) == (-1)) = true := beq_iff_eq.mpr c7
          have c7b1 : ((wrap64 ((Int.tmod a2 a0) - (Int.tmod a1 a0))) != (-1)) = false := bne_eq_false_iff_eq.mpr c7
          clear c7
          obtain rfl := Option.some.inj H
          go_enter Tryd.func68, Tryd.ntmps68
          go_wp2
          repeat (go_quiet (fail); try go_wp2)
          go_ret
          exact ⟨by first | rfl | (simp; done) | (simp [*]; done), by repeat (first | exact Drawn0.refl _ | apply Drawn0.step)⟩
        · rw [if_neg c7] at H
          have c7b0 : ((wrap64 ((Int.tmod a2 a0) - (Int.tmod a1 a0))) == (-1)) = false := beq_eq_false_iff_ne.mpr c7
          have c7b1 : ((wrap64 ((Int.tmod a2 a0) - (Int.tmod a1 a0))) != (-1)) = true := bne_iff_ne.mpr c7
          by_cases c8 : (wrap64 ((wrap64 (Int.tdiv a2 a0)) - (wrap64 (Int.tdiv a1 a0)))) = (-1)
          · rw [if_pos c8] at H
            have c8b0 : ((wrap64 ((wrap64 (Int.tdiv a2 a0)) - (wrap64 (Int.tdiv a1 a0)))) == (-1)) = true := beq_iff_eq.mpr c8
            have c8b1 : ((wrap64 ((wrap64 (Int.tdiv a2 a0)) - (wrap64 (Int.tdiv a1 a0)))) != (-1)) = false := bne_eq_false_iff_eq.mpr c8
            clear c8
            by_cases c9 : (wrap64 ((Int.tmod a2 a0) - (Int.tmod a1 a0))) = 0
            · rw [if_pos c9] at H
              have c9b0 : ((wrap64 ((Int.tmod a2 a0) - (Int.tmod a1 a0))) == 0) = true := beq_iff_eq.mpr c9
              have c9b1 : ((wrap64 ((Int.tmod a2 a0) - (Int.tmod a1 a0))) != 0) = false := bne_eq_false_iff_eq.mpr c9
              clear c9
              obtain rfl := Option.some.inj H
              go_enter Tryd.func68, Tryd.ntmps68
              go_wp2
              repeat (go_quiet (fail); try go_wp2)
              go_ret
              exact ⟨by first | rfl | (simp; done) | (simp [*]; done), by repeat (first | exact Drawn0.refl _ | apply Drawn0.step)⟩
            · rw [if_neg c9] at H
              have c9b0 : ((wrap64 ((Int.tmod a2 a0) - (Int.tmod a1 a0))) == 0) = false := beq_eq_false_iff_ne.mpr c9
              have c9b1 : ((wrap64 ((Int.tmod a2 a0) - (Int.tmod a1 a0))) != 0) = true := bne_iff_ne.mpr c9
              by_cases c10 : (wrap64 ((wrap64 (Int.tdiv a2 a0)) - (wrap64 (Int.tdiv a1 a0)))) = 1
              · rw [if_pos c10] at H
                have c10b0 : ((wrap64 ((wrap64 (Int.tdiv a2 a0)) - (wrap64 (Int.tdiv a1 a0)))) == 1) = true := beq_iff_eq.mpr c10
                have c10b1 : ((wrap64 ((wrap64 (Int.tdiv a2 a0)) - (wrap64 (Int.tdiv a1 a0)))) != 1) = false := bne_eq_false_iff_eq.mpr c10
                clear c10
                obtain rfl := Option.some.inj H
                go_enter Tryd.func68, Tryd.ntmps68
                go_wp2
                repeat (go_quiet (fail); try go_wp2)
                go_ret
                exact ⟨by first | rfl | (simp; done) | (simp [*]; done), by repeat (first | exact Drawn0.refl _ | apply Drawn0.step)⟩
              · rw [if_neg c10] at H
                have c10b0 : ((wrap64 ((wrap64 (Int.tdiv a2 a0)) - (wrap64 (Int.tdiv a1 a0)))) == 1) = false := beq_eq_false_iff_ne.mpr c10
                have c10b1 : ((wrap64 ((wrap64 (Int.tdiv a2 a0)) - (wrap64 (Int.tdiv a1 a0)))) != 1) = true := bne_iff_ne.mpr c10
                obtain rfl := Option.some.inj H
                go_enter Tryd.func68, Tryd.ntmps68
                go_wp2
                repeat (go_quiet (fail); try go_wp2)
                go_ret
                exact ⟨by first | rfl | (simp; done) | (simp [*]; done), by repeat (first | exact Drawn0.refl _ | apply Drawn0.step)⟩
          · rw [if_neg c8] at H
            have c8b0 : ((wrap64 ((wrap64 (Int.tdiv a2 a0)) - (wrap64 (Int.tdiv a1 a0)))) == (-1)) = false := beq_eq_false_iff_ne.mpr c8
            have c8b1 : ((wrap64 ((wrap64 (Int.tdiv a2 a0)) - (wrap64 (Int.tdiv a1 a0)))) != (-1)) = true := bne_iff_ne.mpr c8
            by_cases c11 : (wrap64 ((wrap64 (Int.tdiv a2 a0)) - (wrap64 (Int.tdiv a1 a0)))) = 1
            · rw [if_pos c11] at H
              have c11b0 : ((wrap64 ((wrap64 (Int.tdiv a2 a0)) - (wrap64 (Int.tdiv a1 a0)))) == 1) = true := beq_iff_eq.mpr c11
              have c11b1 : ((wrap64 ((wrap64 (Int.tdiv a2 a0)) - (wrap64 (Int.tdiv a1 a0)))) != 1) = false := bne_eq_false_iff_eq.mpr c11
              clear c11
              obtain rfl := Option.some.inj H
              go_enter Tryd.func68, Tryd.ntmps68
              go_wp2
              repeat (go_quiet (fail); try go_wp2)
              go_ret
              exact ⟨by first | rfl | (simp; done) | (simp [*]; done), by repeat (first | exact Drawn0.refl _ | apply Drawn0.step)⟩
            · rw [if_neg c11] at H
              have c11b0 : ((wrap64 ((wrap64 (Int.tdiv a2 a0)) - (wrap64 (Int.tdiv a1 a0)))) == 1) = false := beq_eq_false_iff_ne.mpr c11
              have c11b1 : ((wrap64 ((wrap64 (Int.tdiv a2 a0)) - (wrap64 (Int.tdiv a1 a0)))) != 1) = true := bne_iff_ne.mpr c11
              obtain rfl := Option.some.inj H
              go_enter Tryd.func68, Tryd.ntmps68
              go_wp2
              repeat (go_quiet (fail); try go_wp2)
              go_ret
              exact ⟨by first | rfl | (simp; done) | (simp [*]; done), by repeat (first | exact Drawn0.refl _ | apply Drawn0.step)⟩
    · rw [if_neg c5] at H
      have c5b0 : ((wrap64 ((wrap64 (Int.tdiv a2 a0)) - (wrap64 (Int.tdiv a1 a0)))) == 0) = false := beq_eq_false_iff_ne.mpr c5
      have c5b1 : ((wrap64 ((wrap64 (Int.tdiv a2 a0)) - (wrap64 (Int.tdiv a1 a0)))) != 0) = true := bne_iff_ne.mpr c5
      by_cases c12 : (wrap64 ((wrap64 (Int.tdiv a2 a0)) - (wrap64 (Int.tdiv a1 a0)))) = (-1)
      · rw [if_pos c12] at H
        have c12b0 : ((wrap64 ((wrap64 (Int.tdiv a2 a0)) - (wrap64 (Int.tdiv a1 a0)))) == (-1)) = true := beq_iff_eq.mpr c12
        have c12b1 : ((wrap64 ((wrap64 (Int.tdiv a2 a0)) - (wrap64 (Int.tdiv a1 a0)))) != (-1)) = false := bne_eq_false_iff_eq.mpr c12
        clear c12
        by_cases c13 : (wrap64 ((Int.tmod a2 a0) - (Int.tmod a1 a0))) = 0
        · rw [if_pos c13] at H
          have c13b0 : ((wrap64 ((Int.tmod a2 a0) - (Int.tmod a1 a0))) == 0) = true := beq_iff_eq.mpr c13
          have c13b1 : ((wrap64 ((Int.tmod a2 a0) - (Int.tmod a1 a0))) != 0) = false := bne_eq_false_iff_eq.mpr c13
          clear c13
          obtain rfl := Option.some.inj H
          go_enter Tryd.func68, Tryd.ntmps68
          go_wp2
          repeat (go_quiet (fail); try go_wp2)
          go_ret
          exact ⟨by first | rfl | (simp; done) | (simp [*]; done), by repeat (first | exact Drawn0.refl _ | apply Drawn0.step)⟩
        · rw [if_neg c13] at H
          have c13b0 : ((wrap64 ((Int.tmod a2 a0) - (Int.tmod a1 a0))) == 0) = false := beq_eq_false_iff_ne.mpr c13
          have c13b1 : ((wrap64 ((Int.tmod a2 a0) - (Int.tmod a1 a0))) != 0) = true := bne_iff_ne.mpr c13
          by_cases c14 : (wrap64 ((Int.tmod a2 a0) - (Int.tmod a1 a0))) = 1
          · rw [if_pos c14] at H
            have c14b0 : ((wrap64 ((Int.tmod a2 a0) - (Int.tmod a1 a0))) == 1) = true := beq_iff_eq.mpr c14
            have c14b1 : ((wrap64 ((Int.tmod a2 a0) - (Int.tmod a1 a0))) != 1) = false := bne_eq_false_iff_eq.mpr c14
            clear c14
            obtain rfl := Option.some.inj H
            go_enter Tryd.func68, Tryd.ntmps68
            go_wp2
            repeat (go_quiet (fail); try go_wp2)
            go_ret
            exact ⟨by first | rfl | (simp; done) | (simp [*]; done), by repeat (first | exact Drawn0.refl _ | apply Drawn0.step)⟩
          · rw [if_neg c14] at H
            have c14b0 : ((wrap64 ((Int.tmod a2 a0) - (Int.tmod a1 a0))) == 1) = false := beq_eq_false_iff_ne.mpr c14
            have c14b1 : ((wrap64 ((Int.tmod a2 a0) - (Int.tmod a1 a0))) != 1) = true := bne_iff_ne.mpr c14
            by_cases c15 : (wrap64 ((wrap64 (Int.tdiv a2 a0)) - (wrap64 (Int.tdiv a1 a0)))) = 1
            · rw [if_pos c15] at H
              have c15b0 : ((wrap64 ((wrap64 (Int.tdiv a2 a0)) - (wrap64 (Int.tdiv a1 a0)))) == 1) = true := beq_iff_eq.mpr c15
              have c15b1 : ((wrap64 ((wrap64 (Int.tdiv a2 a0)) - (wrap64 (Int.tdiv a1 a0)))) != 1) = false := bne_eq_false_iff_eq.mpr c15
              clear c15
              by_cases c16 : (wrap64 ((Int.tmod a2 a0) - (Int.tmod a1 a0))) = (-1)
              · rw [if_pos c16] at H
                have c16b0 : ((wrap64 ((Int.tmod a2 a0) - (Int.tmod a1 a0))) == (-1)) = true := beq_iff_eq.mpr c16
                have c16b1 : ((wrap64 ((Int.tmod a2 a0) - (Int.tmod a1 a0))) != (-1)) = false := bne_eq_false_iff_eq.mpr c16
                clear c16
                obtain rfl := Option.some.inj H
                go_enter Tryd.func68, Tryd.ntmps68
                go_wp2
                repeat (go_quiet (fail); try go_wp2)
                go_ret
                exact ⟨by first | rfl | (simp; done) | (simp [*]; done), by repeat (first | exact Drawn0.refl _ | apply Drawn0.step)⟩
              · rw [if_neg c16] at H
                have c16b0 : ((wrap64 ((Int.tmod a2 a0) - (Int.tmod a1 a0))) == (-1)) = false := beq_eq_false_iff_ne.mpr c16
                have c16b1 : ((wrap64 ((Int.tmod a2 a0) - (Int.tmod a1 a0))) != (-1)) = true := bne_iff_ne.mpr c16
                obtain rfl := Option.some.inj H
                go_enter Tryd.func68, Tryd.ntmps68
                go_wp2
                repeat (go_quiet (fail); try go_wp2)
                go_ret
                exact ⟨by first | rfl | (simp; done) | (simp [*]; done), by repeat (first | exact Drawn0.refl _ | apply Drawn0.step)⟩
            · rw [if_neg c15] at H
              have c15b0 : ((wrap64 ((wrap64 (Int.tdiv a2 a0)) - (wrap64 (Int.tdiv a1 a0)))) == 1) = false := beq_eq_false_iff_ne.mpr c15
              have c15b1 : ((wrap64 ((wrap64 (Int.tdiv a2 a0)) - (wrap64 (Int.tdiv a1 a0)))) != 1) = true := bne_iff_ne.mpr c15
              obtain rfl := Option.some.inj H
              go_enter Tryd.func68, Tryd.ntmps68
              go_wp2
              repeat (go_quiet (fail); try go_wp2)
              go_ret
              exact ⟨by first | rfl | (simp; done) | (simp [*]; done), by repeat (first | exact Drawn0.refl _ | apply Drawn0.step)⟩
      · rw [if_neg c12] at H
        have c12b0 : ((wrap64 ((wrap64 (Int.tdiv a2 a0)) - (wrap64 (Int.tdiv a1 a0)))) == (-1)) = false := beq_eq_false_iff_ne.mpr c12
        have c12b1 : ((wrap64 ((wrap64 (Int.tdiv a2 a0)) - (wrap64 (Int.tdiv a1 a0)))) != (-1)) = true := bne_iff_ne.mpr c12
        by_cases c17 : (wrap64 ((wrap64 (Int.tdiv a2 a0)) - (wrap64 (Int.tdiv a1 a0)))) = 1
        · rw [if_pos c17] at H
          have c17b0 : ((wrap64 ((wrap64 (Int.tdiv a2 a0)) - (wrap64 (Int.tdiv a1 a0)))) == 1) = true := beq_iff_eq.mpr c17
          have c17b1 : ((wrap64 ((wrap64 (Int.tdiv a2 a0)) - (wrap64 (Int.tdiv a1 a0)))) != 1) = false := bne_eq_false_iff_eq.mpr c17
          clear c17
          by_cases c18 : (wrap64 ((Int.tmod a2 a0) - (Int.tmod a1 a0))) = (-1)
          · rw [if_pos c18] at H
            have c18b0 : ((wrap64 ((Int.tmod a2 a0) - (Int.tmod a1 a0))) == (-1)) = true := beq_iff_eq.mpr c18
            have c18b1 : ((wrap64 ((Int.tmod a2 a0) - (Int.tmod a1 a0))) != (-1)) = false := bne_eq_false_iff_eq.mpr c18
            clear c18
            obtain rfl := Option.some.inj H
            go_enter Tryd.func68, Tryd.ntmps68
            go_wp2
            repeat (go_quiet (fail); try go_wp2)
            go_ret
            exact ⟨by first | rfl | (simp; done) | (simp [*]; done), by repeat (first | exact Drawn0.refl _ | apply Drawn0.step)⟩
          · rw [if_neg c18] at H
            have c18b0 : ((wrap64 ((Int.tmod a2 a0) - (Int.tmod a1 a0))) == (-1)) = false := beq_eq_false_iff_ne.mpr c18
            have c18b1 : ((wrap64 ((Int.tmod a2 a0) - (Int.tmod a1 a0))) != (-1)) = true := bne_iff_ne.mpr c18
            obtain rfl := Option.some.inj H
            go_enter Tryd.func68, Tryd.ntmps68
            go_wp2
            repeat (go_quiet (fail); try go_wp2)
            go_ret
            exact ⟨by first | rfl | (simp; done) | (simp [*]; done), by repeat (first | exact Drawn0.refl _ | apply Drawn0.step)⟩
        · rw [if_neg c17] at H
          have c17b0 : ((wrap64 ((wrap64 (Int.tdiv a2 a0)) - (wrap64 (Int.tdiv a1 a0)))) == 1) = false := beq_eq_false_iff_ne.mpr c17
          have c17b1 : ((wrap64 ((wrap64 (Int.tdiv a2 a0)) - (wrap64 (Int.tdiv a1 a0)))) != 1) = true := bne_iff_ne.mpr c17
          obtain rfl := Option.some.inj H
          go_enter Tryd.func68, Tryd.ntmps68
          go_wp2
          repeat (go_quiet (fail); try go_wp2)
          go_ret
          exact ⟨by first | rfl | (simp; done) | (simp [*]; done), by repeat (first | exact Drawn0.refl _ | apply Drawn0.step)⟩
def pomaderef04_begins.f (a0 : Int) (a1 : Int) (a2 : Int) : Option (Bool) := if a1 = 120 then (some (decide (a2 < a0))) else (if a0 = 0 then (none) else (some ((Int.tmod a2 a0) == 0)))
set_option maxHeartbeats 8000000 in
set_option maxRecDepth 100000 in
theorem pomaderef04_begins.calls (a0 : Int) (a1 : Int) (a2 : Int) (r : Bool) (w : World) (h : pomaderef04_begins.f a0 a1 a2 = some r) :
    Calls Tryd.prog 50 #[.int .i64 a0, .int .u8 a1, .int .i64 a2] w fun e w' => e = .returned (.bool r) ∧ Drawn0 w w' := by
  have H : (if a1 = 120 then (some (decide (a2 < a0))) else (if a0 = 0 then (none) else (some ((Int.tmod a2 a0) == 0)))) = some r := h
  clear h
  by_cases c4 : a1 = 120
  · rw [if_pos c4] at H
    have c4b0 : (a1 == 120) = true := beq_iff_eq.mpr c4
    have c4b1 : (a1 != 120) = false := bne_eq_false_iff_eq.mpr c4
    clear c4
    obtain rfl := Option.some.inj H
    go_enter Tryd.func50, Tryd.ntmps50
    go_wp2
    go_ret
    exact ⟨by first | rfl | (simp; done) | (simp [*]; done), by repeat (first | exact Drawn0.refl _ | apply Drawn0.step)⟩
  · rw [if_neg c4] at H
    have c4b0 : (a1 == 120) = false := beq_eq_false_iff_ne.mpr c4
    have c4b1 : (a1 != 120) = true := bne_iff_ne.mpr c4
    by_cases c5 : a0 = 0
    · rw [if_pos c5] at H
      exact absurd H (by simp)
    · rw [if_neg c5] at H
      have c5b0 : (a0 == 0) = false := beq_eq_false_iff_ne.mpr c5
      have c5b1 : (a0 != 0) = true := bne_iff_ne.mpr c5
      obtain rfl := Option.some.inj H
      go_enter Tryd.func50, Tryd.ntmps50
      go_wp2
      go_ret
      exact ⟨by first | rfl | (simp; done) | (simp [*]; done), by repeat (first | exact Drawn0.refl _ | apply Drawn0.step)⟩
def pomaderef04_ends.f (a0 : Int) (a1 : Int) (a2 : Int) : Option (Bool) := if a1 = 120 then (some (decide (a2 ≥ (wrap64 (a0 * (wrap64 (a0 - 1))))))) else (if a0 = 0 then (none) else (some ((Int.tmod a2 a0) == (wrap64 (a0 - 1)))))
set_option maxHeartbeats 8000000 in
set_option maxRecDepth 100000 in
theorem pomaderef04_ends.calls (a0 : Int) (a1 : Int) (a2 : Int) (r : Bool) (w : World) (h : pomaderef04_ends.f a0 a1 a2 = some r) :
    Calls Tryd.prog 69 #[.int .i64 a0, .int .u8 a1, .int .i64 a2] w fun e w' => e = .returned (.bool r) ∧ Drawn0 w w' := by
  have H : (if a1 = 120 then (some (decide (a2 ≥ (wrap64 (a0 * (wrap64 (a0 - 1))))))) else (if a0 = 0 then (none) else (some ((Int.tmod a2 a0) == (wrap64 (a0 - 1)))))) = some r := h
  clear h
  by_cases c4 : a1 = 120
  · rw [if_pos c4] at H
    have c4b0 : (a1 == 120) = true := beq_iff_eq.mpr c4
    have c4b1 : (a1 != 120) = false := bne_eq_false_iff_eq.mpr c4
    clear c4
    obtain rfl := Option.some.inj H
    go_enter Tryd.func69, Tryd.ntmps69
    go_wp2
    go_ret
    exact ⟨by first | rfl | (simp; done) | (simp [*]; done), by repeat (first | exact Drawn0.refl _ | apply Drawn0.step)⟩
  · rw [if_neg c4] at H
    have c4b0 : (a1 == 120) = false := beq_eq_false_iff_ne.mpr c4
    have c4b1 : (a1 != 120) = true := bne_iff_ne.mpr c4
    by_cases c5 : a0 = 0
    · rw [if_pos c5] at H
      exact absurd H (by simp)
    · rw [if_neg c5] at H
      have c5b0 : (a0 == 0) = false := beq_eq_false_iff_ne.mpr c5
      have c5b1 : (a0 != 0) = true := bne_iff_ne.mpr c5
      obtain rfl := Option.some.inj H
      go_enter Tryd.func69, Tryd.ntmps69
      go_wp2
      go_ret
      exact ⟨by first | rfl | (simp; done) | (simp [*]; done), by repeat (first | exact Drawn0.refl _ | apply Drawn0.step)⟩
end Go.Proofs.YtlmgkmmdaecpdaaDoor.Im

namespace Go.Proofs.YtlmgkmmdaecpdaaDoor.Im
open Go.RowKit Go.Proofs.YtlmgkmmdaecpdaaDoorW.PrintWords Go.Proofs.YtlmgkmmdaecpdaaDoorW.PrintLast Go.Proofs.YtlmgkmmdaecpdaaDoorW.PrintMore Go.Proofs.YtlmgkmmdaecpdaaDoor.Mi
set_option linter.unusedVariables false
def Gives {α : Type} (f : Nat → Option α) (r : α) : Prop := ∃ k0, ∀ k, k0 ≤ k → f k = some r
theorem Gives.now {α : Type} {g : Nat → Option α} {r : α} (h : ∀ k, g (k + 1) = some r) : Gives g r :=
  ⟨1, fun k hk => by obtain ⟨m, rfl⟩ : ∃ m, k = m + 1 := ⟨k - 1, by omega⟩; exact h m⟩
theorem Gives.all {α : Type} {g : Nat → Option α} {r : α} (h : ∀ k, g k = some r) : Gives g r := ⟨0, fun k _ => h k⟩
theorem Gives.step {α β : Type} {f : Nat → Option α} {r : α} {g : Nat → Option β} {s : β} (h : Gives f r) (hs : ∀ k, f k = some r → g (k + 1) = some s) : Gives g s := by
  obtain ⟨k0, h⟩ := h
  exact ⟨k0 + 1, fun k hk => by obtain ⟨m, rfl⟩ : ∃ m, k = m + 1 := ⟨k - 1, by omega⟩; exact hs m (h m (by omega))⟩
theorem Gives.map {α β : Type} {f : Nat → Option α} {r : α} {g : Nat → Option β} {s : β} (h : Gives f r) (hs : ∀ k, f k = some r → g k = some s) : Gives g s := by
  obtain ⟨k0, h⟩ := h
  exact ⟨k0, fun k hk => hs k (h k hk)⟩
theorem rd_get {xs : List Int} {i : Nat} (h : i < xs.length) : rd xs (i : Int) = xs[i] := by
  show xs.getD ((i : Nat) : Int).toNat 0 = _
  rw [Int.toNat_natCast, List.getD, List.getElem?_eq_getElem h]
  rfl
theorem same_l0 (xs ys : List Int) (hx : xs.length < 1000000) (he : xs.length = ys.length) : ∀ (d i : Nat), i + d = xs.length → Gives (fun k => pomadelaw04_same.l0 k xs ys i) (decide (xs.drop i = ys.drop i))
  | 0, i, h => Gives.now fun k => by
    simp only [pomadelaw04_same.l0]
    rw [if_neg (by omega), List.drop_of_length_le (by omega), List.drop_of_length_le (by omega)]
    rfl
  | d + 1, i, h => by
    have e1 : xs.drop i = xs[i]'(by omega) :: xs.drop (i + 1) := (List.drop_eq_getElem_cons (by omega))
    have e2 : ys.drop i = ys[i]'(by omega) :: ys.drop (i + 1) := (List.drop_eq_getElem_cons (by omega))
    by_cases hq : xs[i]'(by omega) = ys[i]'(by omega)
    · have e3 : xs.drop (i + 1) = ys.drop (i + 1) ↔ xs.drop i = ys.drop i := ⟨fun h => by rw [e1, e2, hq, h], fun h => by rw [e1, e2] at h; exact (List.cons.inj h).2⟩
      exact (same_l0 xs ys hx he d (i + 1) (by omega)).step fun k hk => by
        simp only [pomadelaw04_same.l0]
        rw [if_pos (by omega), if_pos (by omega), if_pos (by omega), rd_get (by omega), rd_get (by omega), if_pos hq, wr_succ i (by omega), hk, decide_eq_decide.2 e3]
    · have e3 : ¬ xs.drop i = ys.drop i := fun h => by rw [e1, e2] at h; exact hq (List.cons.inj h).1
      exact Gives.now fun k => by
        simp only [pomadelaw04_same.l0]
        rw [if_pos (by omega), if_pos (by omega), if_pos (by omega), rd_get (by omega), rd_get (by omega), if_neg hq, decide_eq_false e3]
theorem same_g (xs ys : List Int) (hx : xs.length < 1000000) : Gives (fun k => pomadelaw04_same.f k xs ys) (decide (xs = ys)) := by
  by_cases he : xs.length = ys.length
  · exact (same_l0 xs ys hx he xs.length 0 (by omega)).map fun k hk => by
      simp only [pomadelaw04_same.f]
      rw [if_pos (by omega)]; exact hk
  · exact Gives.all fun k => by
      simp only [pomadelaw04_same.f]
      rw [if_neg (by omega), decide_eq_false (fun e => he (by rw [e]))]
theorem same_any (xs ys : List Int) (A B : Option Addr) (c d : Nat) (w : World) (hx : xs.length < 1000000) (hA : Kd.C (Kd.int .i64) w A xs.length xs) (hc : xs.length ≤ c) (hB : Kd.C (Kd.int .i64) w B ys.length ys) (hd : ys.length ≤ d) :
    Calls Tryd.prog 33 #[.slice A xs.length c, .slice B ys.length d] w fun e w' => e = .returned (.bool (decide (xs = ys))) ∧ Below w.heap.size w w' := by
  obtain ⟨k0, hk0⟩ := same_g xs ys hx
  exact (pomadelaw04_same.calls k0 A c xs B d ys _ w hA hc hB hd (hk0 k0 (Nat.le_refl _))).mono fun e w' ⟨h1, h2⟩ => ⟨h1, h2.below⟩
theorem C_i2 (w : World) (i j : Int) : Kd.C (Kd.int .i64) (w.alloc (.cells #[.int .i64 i, .int .i64 j] 3)) (some ⟨w.heap.size, 0, none⟩) 2 [i, j] := by
  have h1 : (w.alloc (.cells #[.int .i64 i, .int .i64 j] 3)).ownsRow w.heap.size 3 1 (.slice (some ⟨w.heap.size, 0, none⟩) 2 2) [i, j].length (encs (Value.int .i64) [i, j]) :=
    ⟨rfl, .inr ⟨w.heap.size, 2, #[.int .i64 i, .int .i64 j], rfl, Nat.le_refl _, Blk.new w 3 _, by simp, by decide, rfl, rfl⟩⟩
  have h2 : Kd.R (Kd.int .i64) 3 (w.alloc (.cells #[.int .i64 i, .int .i64 j] 3)) w.heap.size (fun _ => True) (.slice (some ⟨w.heap.size, 0, none⟩) 2 2) [i, j] := Kd.R_of_own h1 (fun _ _ => trivial)
  obtain ⟨A, c, e, _, hC⟩ := Kd.R_reads h2
  injection e with e1
  rw [← e1] at hC
  exact hC
theorem C_i3 (w : World) (i j l : Int) : Kd.C (Kd.int .i64) (w.alloc (.cells #[.int .i64 i, .int .i64 j, .int .i64 l] 3)) (some ⟨w.heap.size, 0, none⟩) 3 [i, j, l] := by
  have h1 : (w.alloc (.cells #[.int .i64 i, .int .i64 j, .int .i64 l] 3)).ownsRow w.heap.size 3 1 (.slice (some ⟨w.heap.size, 0, none⟩) 3 3) [i, j, l].length (encs (Value.int .i64) [i, j, l]) :=
    ⟨rfl, .inr ⟨w.heap.size, 3, #[.int .i64 i, .int .i64 j, .int .i64 l], rfl, Nat.le_refl _, Blk.new w 3 _, by simp, by decide, rfl, rfl⟩⟩
  have h2 : Kd.R (Kd.int .i64) 3 (w.alloc (.cells #[.int .i64 i, .int .i64 j, .int .i64 l] 3)) w.heap.size (fun _ => True) (.slice (some ⟨w.heap.size, 0, none⟩) 3 3) [i, j, l] := Kd.R_of_own h1 (fun _ _ => trivial)
  obtain ⟨A, c, e, _, hC⟩ := Kd.R_reads h2
  injection e with e1
  rw [← e1] at hC
  exact hC
end Go.Proofs.YtlmgkmmdaecpdaaDoor.Im

namespace Go.Proofs.YtlmgkmmdaecpdaaDoor.Im
open Go.RowKit Go.Proofs.YtlmgkmmdaecpdaaDoorW.PrintWords Go.Proofs.YtlmgkmmdaecpdaaDoorW.PrintLast Go.Proofs.YtlmgkmmdaecpdaaDoorW.PrintMore Go.Proofs.YtlmgkmmdaecpdaaDoor.Mi
set_option linter.unusedVariables false
set_option maxHeartbeats 6400000 in
set_option maxRecDepth 100000 in
theorem alive_any (w : World) (hst : Steps w) (mL : Int) (hm : w.cell? ⟨1, 0, none⟩ = some (.int .i64 mL)) : Calls Tryd.prog 17 #[] w fun e w' => e = .returned (.bool true) ∧ Below w.heap.size w w' := by
  have HS := Aside0.mk hst
  have HM := Aside0.mk hm
  clear hst hm
  go_enter Tryd.func17, Tryd.ntmps17
  go_wp2_with fail
  refine (al_f _).mono ?_
  rintro e w1 ⟨hb1, v1, rfl, hR1⟩
  have HB1 := Aside0.mk hb1
  have HR1 := Aside0.mk hR1
  clear hb1 hR1
  go_wp2_with fail
  refine (al_t _ mL ((HB1.out.cell (World.block_lt_of_cell? w _ HM.out)).trans HM.out)).mono ?_
  rintro e w2 ⟨hb2, rfl⟩
  have HB2 := Aside0.mk (below_then HB1.out HB1.out.size hb2)
  have HR2 := Aside0.mk (Kd.R_below HR1.out hb2)
  clear hb2 HB1 HR1
  go_wp2_with fail
  refine (al_v _ (HS.out.later HB2.out)).mono ?_
  rintro e w3 ⟨hb3, A3, c3, rfl, hR3⟩
  have HB3 := Aside0.mk (below_then HB2.out HB2.out.size hb3)
  have HR3 := Aside0.mk (Kd.R_below HR2.out hb3)
  have HV3 := Aside0.mk hR3
  clear hb3 hR3 HB2 HR2
  go_wp2_with fail
  refine (al_n _ (HS.out.later HB3.out)).mono ?_
  rintro e w4 ⟨hb4, rfl⟩
  have HB4 := Aside0.mk (below_then HB3.out HB3.out.size hb4)
  have HR4 := Aside0.mk (Kd.R_below HR3.out hb4)
  have HV4 := Aside0.mk (Kd.R_below HV3.out hb4)
  clear hb4 HB3 HR3 HV3
  go_wp2_with fail
  refine (al_w _ (HS.out.later HB4.out)).mono ?_
  rintro e w5 ⟨hb5, rfl⟩
  have HB5 := Aside0.mk (below_then HB4.out HB4.out.size hb5)
  have HR5 := Aside0.mk (Kd.R_below HR4.out hb5)
  have HV5 := Aside0.mk (Kd.R_below HV4.out hb5)
  clear hb5 HB4 HR4 HV4
  obtain ⟨g1, c1, rfl, _, _, _⟩ := Kd.R_form HR5.out (by decide)
  obtain ⟨_, _, hC1⟩ := Kd.R_reads' HR5.out
  obtain ⟨ad, A0, c0, e0, hcell, hlc, hC0⟩ := at_L3 hC1 0 (by decide) (by decide)
  cases e0
  have hc1 : w5.cell? ⟨g1, 0, none⟩ = some (.slice A0 3 c0) := hcell
  have HC0 := Aside0.mk hC0
  have hlc' : 3 ≤ c0 := hlc
  clear hcell hC1 hC0 hlc HR5
  go_wp2_with fail
  have hba : Below w5.heap.size w5 (w5.alloc (.cells #[.int .i64 0, .int .i64 0, .int .i64 0] 3)) := below_alloc (Below.refl _ _) _
  refine (same_any [0, 0, 0] [0, 0, 0] A0 (some ⟨w5.heap.size, 0, none⟩) c0 3 _ (by decide) (Kd.C_below HC0.out hba) hlc' (C_i3 w5 0 0 0) (by decide)).mono ?_
  rintro e w6 ⟨rfl, hb6⟩
  have hbw := below_then hba hba.size hb6
  have HB6 := Aside0.mk (below_then HB5.out HB5.out.size hbw)
  have HV6 := Aside0.mk (Kd.R_below HV5.out hbw)
  clear hba hb6 hbw HB5 HV5 HC0
  obtain ⟨hn3, hl3, hC3⟩ := Kd.R_reads' HV6.out
  have HC3 := Aside0.mk hC3
  have hl3' : 2 ≤ c3 := hl3
  clear hn3 hl3 hC3
  go_wp2_with fail
  have hbb : Below w6.heap.size w6 (w6.alloc (.cells #[.int .i64 2, .int .i64 1] 3)) := below_alloc (Below.refl _ _) _
  refine (same_any [2, 1] [2, 1] (some A3) (some ⟨w6.heap.size, 0, none⟩) c3 2 _ (by decide) (Kd.C_below HC3.out hbb) hl3' (C_i2 w6 2 1) (by decide)).mono ?_
  rintro e w7 ⟨rfl, hb7⟩
  have HB7 := Aside0.mk (below_then HB6.out HB6.out.size (below_then hbb hbb.size hb7))
  clear hb7 hbb HB6 HV6
  go_wp2_with fail
  go_ret
  exact ⟨rfl, HB7.out⟩
end Go.Proofs.YtlmgkmmdaecpdaaDoor.Im

namespace Go.Proofs.YtlmgkmmdaecpdaaDoor.Im
open Go.RowKit Go.Proofs.YtlmgkmmdaecpdaaDoorW.PrintWords Go.Proofs.YtlmgkmmdaecpdaaDoorW.PrintLast Go.Proofs.YtlmgkmmdaecpdaaDoorW.PrintMore Go.Proofs.YtlmgkmmdaecpdaaDoor.Mi
set_option linter.unusedVariables false
theorem bt_bs (s : ByteArray) (i : Nat) : bt s i = (bsOf s).getD i 0 := by
  unfold bt bsOf
  rw [List.getD, List.getElem?_map]
  by_cases h : i < s.size
  · have h' : ((i : Nat) : Int).toNat < s.size := by rw [Int.toNat_natCast]; exact h
    rw [dif_pos h']
    have e : s.data.toList[i]? = some (s[i]'h) := by
      rw [Array.getElem?_toList, Array.getElem?_eq_getElem h]
      rfl
    rw [e]
    simp
  · rw [dif_neg (by rw [Int.toNat_natCast]; exact h), List.getElem?_eq_none (by rw [Array.length_toList]; exact Nat.not_lt.1 h)]
    rfl
def csB (b : Bool) : ByteArray := if b then xodB else xoB
def okFrom (s : ByteArray) (b : Bool) (i : Nat) : Bool := (s.data.toList.drop i).all ((csB b).data.toList.contains ·)
theorem okFrom_end {s : ByteArray} {b : Bool} {i : Nat} (h : s.size ≤ i) : okFrom s b i = true := by
  unfold okFrom
  rw [List.drop_of_length_le (by rw [Array.length_toList]; exact h)]
  rfl
theorem okFrom_step {s : ByteArray} {b : Bool} {i : Nat} (h : i < s.size) : okFrom s b i = ((decide (bt s i = 120) || decide (bt s i = 111) || (b && decide (bt s i = 46))) && okFrom s b (i + 1)) := by
  have hl : i < s.data.toList.length := by rw [Array.length_toList]; exact h
  have e : s.data.toList.drop i = s.data.toList[i]'hl :: s.data.toList.drop (i + 1) := List.drop_eq_getElem_cons hl
  have e2 : bt s i = ((s.data.toList[i]'hl).toNat : Int) := by
    rw [bt_bs]
    unfold bsOf
    rw [List.getD, List.getElem?_map, List.getElem?_eq_getElem hl]
    rfl
  unfold okFrom
  rw [e, List.all_cons, e2]
  congr 1
  have k : ∀ c : UInt8, ((c.toNat : Int) = 120 ↔ c = 120) ∧ ((c.toNat : Int) = 111 ↔ c = 111) ∧ ((c.toNat : Int) = 46 ↔ c = 46) := fun c => ⟨⟨fun h => UInt8.toNat_inj.1 (by have h2 : (c.toNat : Int) = ((120 : UInt8).toNat : Int) := h; omega), fun h => by rw [h]; rfl⟩, ⟨fun h => UInt8.toNat_inj.1 (by have h2 : (c.toNat : Int) = ((111 : UInt8).toNat : Int) := h; omega), fun h => by rw [h]; rfl⟩, ⟨fun h => UInt8.toNat_inj.1 (by have h2 : (c.toNat : Int) = ((46 : UInt8).toNat : Int) := h; omega), fun h => by rw [h]; rfl⟩⟩
  generalize s.data.toList[i]'hl = c
  obtain ⟨k1, k2, k3⟩ := k c
  have d1 : decide ((c.toNat : Int) = 120) = decide (c = 120) := decide_eq_decide.2 k1
  have d2 : decide ((c.toNat : Int) = 111) = decide (c = 111) := decide_eq_decide.2 k2
  have d3 : decide ((c.toNat : Int) = 46) = decide (c = 46) := decide_eq_decide.2 k3
  rw [d1, d2, d3]
  cases b
  · show [120, 111].contains c = _
    simp
  · show [120, 111, 46].contains c = _
    simp [Bool.or_assoc]
theorem board_l0 (s : ByteArray) (b : Bool) (hs : s.size ≤ 1000000) : ∀ (d i : Nat), i + d = s.size → Gives (fun k => pomaderef04_Board.l0 k s b i) (if okFrom s b i then 0 else 5)
  | 0, i, h => Gives.now fun k => by
    simp only [pomaderef04_Board.l0]
    rw [if_neg (by omega), okFrom_end (by omega), if_pos rfl]
  | d + 1, i, h => by
    have e := okFrom_step (s := s) (b := b) (i := i) (by omega)
    have hrec := board_l0 s b hs d (i + 1) (by omega)
    have w1 := wr_succ i (by omega)
    by_cases h1 : bt s i = 120
    · refine hrec.step fun k hk => ?_
      simp only [pomaderef04_Board.l0]
      rw [if_pos (by omega), if_pos (by omega), if_pos h1, w1, hk, e, decide_eq_true h1]
      simp
    · by_cases h2 : bt s i = 111
      · refine hrec.step fun k hk => ?_
        simp only [pomaderef04_Board.l0]
        rw [if_pos (by omega), if_pos (by omega), if_neg h1, if_pos h2, w1, hk, e, decide_eq_true h2]
        simp
      · by_cases h3 : bt s i = 46
        · cases b
          · refine Gives.now fun k => ?_
            simp only [pomaderef04_Board.l0]
            rw [if_pos (by omega), if_pos (by omega), if_neg h1, if_neg h2, if_pos h3, if_neg (by decide), e, decide_eq_false h1, decide_eq_false h2]
            simp
          · refine hrec.step fun k hk => ?_
            simp only [pomaderef04_Board.l0]
            rw [if_pos (by omega), if_pos (by omega), if_neg h1, if_neg h2, if_pos h3, if_pos trivial, w1, hk, e, decide_eq_true h3]
            simp
        · refine Gives.now fun k => ?_
          simp only [pomaderef04_Board.l0]
          rw [if_pos (by omega), if_pos (by omega), if_neg h1, if_neg h2, if_neg h3, e, decide_eq_false h1, decide_eq_false h2, decide_eq_false h3]
          simp
theorem boE_of (n : Int) (s : ByteArray) (b : Bool) : boE n s (csB b) = if n < 1 ∨ 11 < n then 2 else if (s.size : Int) = n * n ∧ okFrom s b 0 = true then 0 else 5 := rfl
theorem board_g (n : Int) (s : ByteArray) (b : Bool) (hs : s.size ≤ 1000000) : Gives (fun k => pomaderef04_Board.f k n s b) (boE n s (csB b)) := by
  rw [boE_of]
  by_cases h1 : n < 1
  · rw [if_pos (.inl h1)]
    refine (Gives.now fun k => ?_ : Gives (fun k => pomaderef04_Board.f k n s b) 2)
    simp only [pomaderef04_Board.f, pomaderef04_Board.j0]
    rw [if_pos h1, if_pos trivial]
  · by_cases h2 : 11 < n
    · rw [if_pos (.inr h2)]
      refine (Gives.now fun k => ?_ : Gives (fun k => pomaderef04_Board.f k n s b) 2)
      simp only [pomaderef04_Board.f, pomaderef04_Board.j0]
      rw [if_neg h1, decide_eq_true (show n > 11 from h2), if_pos rfl]
    · rw [if_neg (by omega)]
      obtain ⟨m, rfl⟩ : ∃ m : Nat, n = m := ⟨n.toNat, by omega⟩
      have hm : m * m ≤ 121 := Nat.mul_le_mul (show m ≤ 11 by omega) (show m ≤ 11 by omega)
      have hw : wrap64 ((m : Int) * m) = ((m * m : Nat) : Int) := by rw [← Int.natCast_mul]; unfold wrap64; omega
      by_cases h3 : (s.size : Int) = (m : Int) * m
      · have hb := board_l0 s b hs s.size 0 (by omega)
        have e : (if (s.size : Int) = (m : Int) * m ∧ okFrom s b 0 = true then (0 : Int) else 5) = if okFrom s b 0 then 0 else 5 := by
          cases okFrom s b 0
          · rw [if_neg (by simp), if_neg (by simp)]
          · rw [if_pos ⟨h3, rfl⟩, if_pos rfl]
        rw [e]
        refine hb.step fun k hk => ?_
        simp only [pomaderef04_Board.f, pomaderef04_Board.j0]
        rw [if_neg h1, decide_eq_false (by omega), if_neg (by decide), hw, if_pos (by rw [h3, Int.natCast_mul])]
        exact hk
      · rw [if_neg (fun h => h3 h.1)]
        refine (Gives.now fun k => ?_ : Gives (fun k => pomaderef04_Board.f k m s b) 5)
        simp only [pomaderef04_Board.f, pomaderef04_Board.j0]
        rw [if_neg h1, decide_eq_false (by omega), if_neg (by decide), hw, if_neg (by rw [Int.natCast_mul]; exact h3)]
theorem board_any (n : Int) (s : ByteArray) (b : Bool) (w : World) (hs : s.size ≤ 1000000) :
    Calls Tryd.prog 22 #[.int .i64 n, .string s, .bool b] w fun e w' => e = .returned (.int .i64 (boE n s (csB b))) ∧ Below w.heap.size w w' := by
  obtain ⟨k0, hk0⟩ := board_g n s b hs
  exact (pomaderef04_Board.calls k0 n s b _ w (hk0 k0 (Nat.le_refl _))).mono fun e w' ⟨h1, h2⟩ => ⟨h1, h2.below⟩
end Go.Proofs.YtlmgkmmdaecpdaaDoor.Im

