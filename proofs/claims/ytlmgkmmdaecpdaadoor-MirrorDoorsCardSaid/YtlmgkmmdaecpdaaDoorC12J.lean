/- Further parts of the same walk: contracts of the functions that the law reaches, each under the conditions that it states. -/
import Derived.Test.YtlmgkmmdaecpdaaDoorC12I
import Derived.WalkSpells
import Derived.Lib.SlBytesConst
namespace Go.Proofs.YtlmgkmmdaecpdaaDoor.Im
open Go.RowKit Go.Proofs.YtlmgkmmdaecpdaaDoorW.PrintWords Go.Proofs.YtlmgkmmdaecpdaaDoorW.PrintLast Go.Proofs.YtlmgkmmdaecpdaaDoorW.PrintMore Go.Proofs.YtlmgkmmdaecpdaaDoor.Mi
set_option linter.unusedVariables false
noncomputable def winB (n : Nat) (bs : List Int) : Int := if (brO n bs 120).isSome then 120 else if (brO n bs 111).isSome then 111 else 0
def plr : Nat → Int | 0 => 120 | _ => 111
set_option maxHeartbeats 3200000 in
set_option maxRecDepth 100000 in
theorem winner_any (g n gb cb : Nat) (bs : List Int) (w : World) (hs : Steps w) (hb : Brd w g n gb cb bs) :
    Calls Tryd.prog 51 #[.pointer (some ⟨g, 0, none⟩)] w fun e w' => e = .returned (.int .u8 (winB n bs)) ∧ Below w.heap.size w w' := by
  have HS := Aside0.mk hs
  have HB := Aside0.mk hb
  have qn : ∀ (w : World) (a : Option Addr) (n c n' c' : Nat), (binOp .neq 34 (.slice a n c) (.slice none n' c')).run Tryd.prog w = .ok (.bool (!a.isNone)) w := fun w a n c n' c' => run_neq_slice_nil_any w _ _ a n c n' c' Tryd.underlying34
  have kc := fun (w : World) (C : Array Value) (n c : Nat) => Lib.run_convert_bytes_const (P := Tryd.prog) w 60 5 C n c Tryd.underlying60 Tryd.underlying5
  clear hs hb
  go_enter Tryd.func51, Tryd.ntmps51
  go_wp2_with fail
  have hbl : Below w.heap.size w (w.alloc (.cells #[.int .u8 120, .int .u8 111] 5 (2, 3))) := below_alloc (Below.refl _ _) _
  have HC : Aside0 (∀ j, (w.alloc (.cells #[.int .u8 120, .int .u8 111] 5 (2, 3))).cell? ⟨w.heap.size, j, none⟩ = (#[.int .u8 120, .int .u8 111] : Array Value)[j]?) := ⟨fun j => World.cell?_alloc_mark w _ _ _ j⟩
  have HLt : Aside0 (w.heap.size < (w.alloc (.cells #[.int .u8 120, .int .u8 111] 5 (2, 3))).heap.size) := ⟨by simp⟩
  have HBl := Aside0.mk hbl
  clear hbl kc
  generalize w.alloc (.cells #[.int .u8 120, .int .u8 111] 5 (2, 3)) = W0 at *
  obtain ⟨gx, hgx⟩ : ∃ gx, w.heap.size = gx := ⟨_, rfl⟩
  rw [hgx] at HC HLt ⊢
  clear hgx
  go_loopw [8] (fun v8 wr => ∃ k : Nat, k ≤ 2 ∧ v8 = .int .i64 (k : Int) ∧ Aside0 (∀ j, j < k → brO n bs (plr j) = none) ∧ Aside0 (Below W0.heap.size W0 wr)) (fun v _ => 2 - (intOf v).toNat)
  case atStart => exact ⟨0, Nat.zero_le _, rfl, ⟨fun j hj => absurd hj (by omega)⟩, ⟨Below.refl _ _⟩⟩
  case round =>
    obtain ⟨k, hk, rfl, HN, HBr⟩ := hrel
    have hcx : ∀ j, wr.cell? ⟨gx, j, none⟩ = (#[.int .u8 120, .int .u8 111] : Array Value)[j]? := fun j => (HBr.out.cell HLt.out).trans (HC.out j)
    by_cases hk2 : k < 2
    · have ck : wr.cell? ⟨gx, k, none⟩ = some (.int .u8 (plr k)) := by
        rw [hcx k]
        match k, hk2 with
        | 0, _ => rfl
        | 1, _ => rfl
      have HBw := Aside0.mk (below_then HBl.out HBl.out.size HBr.out)
      have HBr2 := Aside0.mk (bridge_any g n gb cb bs (plr k) wr (HS.out.later HBw.out) (HB.out.later HBw.out))
      cases hbr : brO n bs (plr k) with
      | none =>
        have HN2 : Aside0 (∀ j, j < k + 1 → brO n bs (plr j) = none) := ⟨fun j hj => by
          rcases Nat.lt_or_ge j k with h | h
          · exact HN.out j h
          · obtain rfl : j = k := by omega
            exact hbr⟩
        have hbp : ∀ e w', BrPost n bs (plr k) wr e w' → e = .returned (.slice none 0 0) ∧ Below wr.heap.size wr w' := fun e w' h => by
          unfold BrPost at h
          rw [hbr] at h
          exact ⟨h.2, h.1⟩
        have HBP := Aside0.mk hbp
        clear hbr hbp hcx
        generalize plr k = pk at *
        go_wp2_with fail
        refine HBr2.out.mono ?_
        intro e w2 h2
        obtain ⟨rfl, hb2⟩ := HBP.out e w2 h2
        have HB2 := Aside0.mk (below_then HBr.out HBr.out.size hb2)
        clear h2 hb2
        go_wp2_with fail
        go_roundw
        case rel => exact ⟨k + 1, hk2, by go_num, HN2, HB2⟩
        case measure => simp [intOf]; omega
      | some G =>
        have hw : winB n bs = plr k := by
          unfold winB
          match k, hk2 with
          | 0, _ => rw [show (120 : Int) = plr 0 from rfl, hbr]; rfl
          | 1, _ =>
            have h0 := HN.out 0 (by omega)
            rw [show (120 : Int) = plr 0 from rfl, h0, show (111 : Int) = plr 1 from rfl, hbr]; rfl
        have HW := Aside0.mk hw
        have hbp : ∀ e w', BrPost n bs (plr k) wr e w' → ∃ A c, e = .returned (.slice (some A) G.length c) ∧ Below wr.heap.size wr w' := fun e w' h => by
          unfold BrPost at h
          rw [hbr] at h
          obtain ⟨h1, A, c, h2, _⟩ := h
          exact ⟨A, c, h2, h1⟩
        have HBP := Aside0.mk hbp
        clear hbr hbp hcx hw
        generalize plr k = pk at *
        go_wp2_with fail
        refine HBr2.out.mono ?_
        intro e w2 h2
        obtain ⟨A2, c2, rfl, hb2⟩ := HBP.out e w2 h2
        have HB2 := Aside0.mk (below_then HBw.out HBw.out.size hb2)
        clear h2 hb2
        go_wp2_with fail
        go_ret
        exact ⟨by rw [HW.out]; rfl, HB2.out⟩
    · obtain rfl : k = 2 := by omega
      have hw : winB n bs = 0 := by
        unfold winB
        rw [show (120 : Int) = plr 0 from rfl, HN.out 0 (by omega), show (111 : Int) = plr 1 from rfl, HN.out 1 (by omega)]; rfl
      have HW := Aside0.mk hw
      clear hw hcx
      go_wp2_with fail
      go_ret
      exact ⟨by rw [HW.out]; rfl, below_then HBl.out HBl.out.size HBr.out⟩
end Go.Proofs.YtlmgkmmdaecpdaaDoor.Im

namespace Go.Proofs.YtlmgkmmdaecpdaaDoor.Im
open Go.RowKit Go.Proofs.YtlmgkmmdaecpdaaDoorW.PrintWords Go.Proofs.YtlmgkmmdaecpdaaDoorW.PrintLast Go.Proofs.YtlmgkmmdaecpdaaDoorW.PrintMore Go.Proofs.YtlmgkmmdaecpdaaDoor.Mi
set_option linter.unusedVariables false
theorem dw_nil {p : UInt8 → Bool} : ∀ {l : List UInt8}, l.dropWhile p = [] ↔ l.all p = true
  | [] => by simp
  | a :: l => by
    by_cases h : p a = true
    · rw [List.dropWhile_cons_of_pos h, dw_nil, List.all_cons, h]; simp
    · rw [List.dropWhile_cons_of_neg h, List.all_cons]
      have : p a = false := by simpa using h
      rw [this]; simp
theorem dw_all {p : UInt8 → Bool} : ∀ {l : List UInt8}, (l.dropWhile p).all p = l.all p
  | [] => rfl
  | a :: l => by
    by_cases h : p a = true
    · rw [List.dropWhile_cons_of_pos h, dw_all, List.all_cons, h]; rfl
    · rw [List.dropWhile_cons_of_neg h]
theorem trim_nil (l cs : List UInt8) : Lib.trimS l cs = [] ↔ l.all (cs.contains ·) = true := by
  unfold Lib.trimS Lib.trimLeftS Lib.trimRightS
  rw [dw_nil, List.all_reverse, dw_all, List.all_reverse]
theorem trim_any (s : ByteArray) (w : World) (cs : ByteArray) (hs : s.size ≤ 9223372036854775807) (hcs : cs.size < 4294967281) (ha : cs.data.toList.all (fun b => decide (b.toNat < 128)) = true) :
    Calls Tryd.prog 77 #[.string s, .string cs] w fun e w' => e = .returned (.string ⟨(Lib.trimS s.data.toList cs.data.toList).toArray⟩) ∧ Below w.heap.size w w' :=
  Any.strings_Trim_laid Tryd.lays160 (by kernel_rfl) s cs w hs hcs (ascii_of_all ha)
def boE (n : Int) (s cs : ByteArray) : Int := if n < 1 ∨ 11 < n then 2 else if (s.size : Int) = n * n ∧ s.data.toList.all (cs.data.toList.contains ·) = true then 0 else 5
def bsOf (s : ByteArray) : List Int := s.data.toList.map fun b => (b.toNat : Int)
theorem bsOf_len (s : ByteArray) : (bsOf s).length = s.size := by
  unfold bsOf
  rw [List.length_map, Array.length_toList]
  rfl
def Byts (w : World) (gb m : Nat) (bs : List Int) : Prop := ∃ (cells : Array Value) (k : Nat), w.heap[gb]? = some (.cells cells 5 (k, k + 1)) ∧ cells.size = k ∧ m ≤ k ∧ ∀ j, j < m → cells[j]? = some (.int .u8 (bs.getD j 0))
theorem Byts.later {w w' : World} {gb m : Nat} {bs : List Int} (h : Byts w gb m bs) (hb : Below w.heap.size w w') : Byts w' gb m bs := by
  obtain ⟨cells, k, h1, h2, h3, h4⟩ := h
  have hlt : gb < w.heap.size := by
    rcases Nat.lt_or_ge gb w.heap.size with h | h
    · exact h
    · rw [Array.getElem?_eq_none h] at h1; cases h1
  exact ⟨cells, k, (hb.block gb hlt).trans h1, h2, h3, h4⟩
def BoardedPost (n : Int) (s cs : ByteArray) (w : World) (e : Ending) (w' : World) : Prop :=
  Below w.heap.size w w' ∧ if boE n s cs = 0 then ∃ g gb cb, e = .returned (.tuple #[.pointer (some ⟨g, 0, none⟩), .int .i64 0]) ∧ Brd w' g n.toNat gb cb (bsOf s) ∧ Byts w' gb s.size (bsOf s) ∧ w.heap.size ≤ gb ∧ gb < g
    else e = .returned (.tuple #[.pointer none, .int .i64 (boE n s cs)])
theorem C_of_byts {w : World} {gb m : Nat} {bs : List Int} (h : Byts w gb m bs) (hl : bs.length = m) (hm : m ≤ 9223372036854775807) : Kd.C (Kd.int .u8) w (some ⟨gb, 0, none⟩) m bs := by
  obtain ⟨cells, k, h1, h2, h3, h4⟩ := h
  refine ⟨hl, hm, fun _ => ⟨⟨gb, 0, none⟩, rfl, fun j p hp => ?_⟩⟩
  have hj : j < m := by
    rcases Nat.lt_or_ge j m with h | h
    · exact h
    · rw [List.getElem?_eq_none (by omega)] at hp; cases hp
  refine ⟨[.int .u8 p], rfl, rfl, fun i u hu => ?_⟩
  match i, hu with
  | 0, hu =>
    simp at hu; subst hu
    have e : (⟨gb, 0, none⟩ : Addr).add (j * (Kd.int .u8).sz + 0) = ⟨gb, j, none⟩ := by
      have : j * (Kd.int .u8).sz + 0 = j := by show j * 1 + 0 = j; omega
      rw [this]; unfold Addr.add; by_cases h : j = 0 <;> simp [h]
    rw [e]
    show w.cell? ⟨gb, j, none⟩ = _
    unfold World.cell?
    have hg : bs.getD j 0 = p := by rw [List.getD_eq_getElem?_getD, hp]; rfl
    have := h4 j hj
    rw [hg] at this
    simp [h1, this]
set_option maxHeartbeats 3200000 in
set_option maxRecDepth 100000 in
theorem boarded_any (n : Int) (s cs : ByteArray) (w : World) (hs : s.size ≤ 9223372036854775807) (hcs : cs.size < 4294967281) (ha : cs.data.toList.all (fun b => decide (b.toNat < 128)) = true) :
    Calls Tryd.prog 42 #[.int .i64 n, .string s, .string cs] w (BoardedPost n s cs w) := by
  have HT := Aside0.mk (fun w1 => trim_any s w1 cs hs hcs ha)
  clear ha hcs
  by_cases h1 : n < 1
  · have hE : boE n s cs = 2 := by unfold boE; rw [if_pos (.inl h1)]
    have HP : Aside0 (∀ w', Below w.heap.size w w' → BoardedPost n s cs w (.returned (.tuple #[.pointer none, .int .i64 2])) w') := ⟨fun w' hb => ⟨hb, by rw [hE, if_neg (by omega)]⟩⟩
    clear hE HT
    go_enter Tryd.func42, Tryd.ntmps42
    go_wp2_with fail
    go_ret2
    exact HP.out _ (Below.refl _ _)
  · by_cases h2 : 11 < n
    · have hE : boE n s cs = 2 := by unfold boE; rw [if_pos (.inr h2)]
      have HP : Aside0 (∀ w', Below w.heap.size w w' → BoardedPost n s cs w (.returned (.tuple #[.pointer none, .int .i64 2])) w') := ⟨fun w' hb => ⟨hb, by rw [hE, if_neg (by omega)]⟩⟩
      clear hE HT
      go_enter Tryd.func42, Tryd.ntmps42
      go_wp2_with fail
      go_ret2
      exact HP.out _ (Below.refl _ _)
    · obtain ⟨m, rfl⟩ : ∃ m : Nat, n = m := ⟨n.toNat, by omega⟩
      have hmm : m * m ≤ 121 := Nat.mul_le_mul (show m ≤ 11 by omega) (show m ≤ 11 by omega)
      have hww : wrap64 ((m : Int) * (m : Int)) = ((m * m : Nat) : Int) := by rw [← Int.natCast_mul]; unfold wrap64; omega
      by_cases h3 : s.size = m * m
      · have h3' : ((s.size : Int) == (m : Int) * (m : Int)) = true := beq_iff_eq.2 (by rw [← Int.natCast_mul]; omega)
        have h3'' : ((s.size : Int) != (m : Int) * (m : Int)) = false := by rw [bne, h3']; rfl
        have hem : (⟨(Lib.trimS s.data.toList cs.data.toList).toArray⟩ : ByteArray).toList.isEmpty = s.data.toList.all (cs.data.toList.contains ·) := by
          rw [ByteArray.toList_mk, Bool.eq_iff_iff, List.isEmpty_iff, trim_nil]
        generalize (⟨(Lib.trimS s.data.toList cs.data.toList).toArray⟩ : ByteArray) = r at *
        cases h4 : s.data.toList.all (cs.data.toList.contains ·) with
        | false =>
          rw [h4] at hem
          have hE : boE m s cs = 5 := by unfold boE; rw [if_neg (by omega), if_neg (by rw [h4]; simp)]
          have HP : Aside0 (∀ w', Below w.heap.size w w' → BoardedPost m s cs w (.returned (.tuple #[.pointer none, .int .i64 5])) w') := ⟨fun w' hb => ⟨hb, by rw [hE, if_neg (by omega)]⟩⟩
          clear hE h4 h3
          go_enter Tryd.func42, Tryd.ntmps42
          go_wp2_with (first | (go_at_call 77; refine (HT.out _).mono ?_; rintro e w2 ⟨rfl, hb2⟩; have HB := Aside0.mk hb2; clear hb2))
          go_ret2
          exact HP.out _ HB.out
        | true =>
          rw [h4] at hem
          have hE : boE m s cs = 0 := by unfold boE; rw [if_neg (by omega), if_pos ⟨by rw [← Int.natCast_mul]; omega, h4⟩]
          have kc := fun (w : World) => Lib.run_convert_string_bytes (P := Tryd.prog) w 9 60 5 s Tryd.underlying9 Tryd.underlying60 Tryd.underlying5
          have HE := Aside0.mk hE
          have H3 := Aside0.mk h3
          clear hE h4 h3
          go_enter Tryd.func42, Tryd.ntmps42
          go_wp2_with (first | (go_at_call 77; refine (HT.out _).mono ?_; rintro e w2 ⟨rfl, hb2⟩; have HB := Aside0.mk hb2; clear hb2))
          go_ret2
          have hB2 : Below w2.heap.size w2 (Lib.bytesWorld w2 5 s) := ⟨rfl, rfl, rfl, by rw [Lib.bytesWorld_size]; omega, fun i hi => Lib.bytesWorld_at_old w2 _ s i hi⟩
          have hB3 := below_then hB2 hB2.size (below_alloc (Below.refl _ _) (.cells #[.int .i64 (m : Nat), .slice (some ⟨w2.heap.size, 0, none⟩) s.size (grownCap w2 s.size 0 5)] 89))
          refine ⟨below_then HB.out HB.out.size hB3, ?_⟩
          rw [if_pos HE.out]
          have hsz := Lib.bytesWorld_size w2 5 s
          have hby : Byts (Lib.bytesWorld w2 5 s) w2.heap.size s.size (bsOf s) := by
            refine ⟨Lib.bytesCells w2 5 s, _, Lib.bytesWorld_at_new w2 _ s, rfl, ?_, fun j hj => ?_⟩
            · unfold Lib.bytesCells
              rw [Array.size_append, Array.size_map]
              exact Nat.le_add_right _ _
            · have hj' : j < s.data.size := hj
              have hb : (bsOf s).getD j 0 = (s.data[j].toNat : Int) := by unfold bsOf; simp only [List.getD_eq_getElem?_getD, List.getElem?_map, Array.getElem?_toList]; rw [Array.getElem?_eq_getElem hj']; rfl
              rw [hb]
              unfold Lib.bytesCells
              rw [Array.getElem?_append_left (by simpa using hj'), Array.getElem?_map, Array.getElem?_eq_getElem hj']
              rfl
          have hby3 := hby.later (below_alloc (Below.refl _ _) (.cells #[.int .i64 (m : Nat), .slice (some ⟨w2.heap.size, 0, none⟩) s.size (grownCap w2 s.size 0 5)] 89))
          refine ⟨(Lib.bytesWorld w2 5 s).heap.size, w2.heap.size, grownCap w2 s.size 0 5, rfl, ⟨?_, ?_, by rw [bsOf_len, H3.out]; rfl, by omega, by omega⟩, hby3, HB.out.size, by rw [hsz]; omega⟩
          · have h := Blk.new (Lib.bytesWorld w2 5 s) 89 #[.int .i64 (m : Nat), .slice (some ⟨w2.heap.size, 0, none⟩) s.size (grownCap w2 s.size 0 5)]
            have e : (m : Int).toNat = m := Int.toNat_natCast m
            rw [e, ← H3.out]
            exact h
          · have e : (m : Int).toNat = m := Int.toNat_natCast m
            rw [e, ← H3.out]
            exact C_of_byts hby3 (bsOf_len s) hs
      · have h3' : ((s.size : Int) == (m : Int) * (m : Int)) = false := beq_eq_false_iff_ne.2 (by rw [← Int.natCast_mul]; omega)
        have h3'' : ((s.size : Int) != (m : Int) * (m : Int)) = true := by rw [bne, h3']; rfl
        have hE : boE m s cs = 5 := by unfold boE; rw [if_neg (by omega), if_neg (by rw [← Int.natCast_mul]; omega)]
        have HP : Aside0 (∀ w', Below w.heap.size w w' → BoardedPost m s cs w (.returned (.tuple #[.pointer none, .int .i64 5])) w') := ⟨fun w' hb => ⟨hb, by rw [hE, if_neg (by omega)]⟩⟩
        clear hE HT h3
        go_enter Tryd.func42, Tryd.ntmps42
        go_wp2_with fail
        go_ret2
        exact HP.out _ (Below.refl _ _)
end Go.Proofs.YtlmgkmmdaecpdaaDoor.Im

