/- Further parts of the same walk: contracts of the functions that the law reaches, each under the conditions that it states. -/
import Derived.Test.YtlmgkmmdaecpdaaDoorC3F
import Derived.WalkSpells
import Derived.Lib.SlBytesConst
namespace Go.Proofs.YtlmgkmmdaecpdaaDoor.Im
open Go.RowKit Go.Proofs.YtlmgkmmdaecpdaaDoorW.PrintWords Go.Proofs.YtlmgkmmdaecpdaaDoorW.PrintLast Go.Proofs.YtlmgkmmdaecpdaaDoorW.PrintMore Go.Proofs.YtlmgkmmdaecpdaaDoor.Mi
set_option linter.unusedVariables false
noncomputable def winB (n : Nat) (bs : List Int) : Int := if (brO n bs 120).isSome then 120 else if (brO n bs 111).isSome then 111 else 0
def plr : Nat → Int | 0 => 120 | _ => 111
set_option maxHeartbeats 3200000 in
set_option maxRecDepth 100000 in
theorem winner_any (g n gb cb : Nat) (bs : List Int) (w : World) (hs : Steps w) (hb : Brd w g n gb cb bs) :
    Calls Tryd.prog 51 #[.pointer (some ⟨g, 0, none⟩)] w fun e w' => e = .returned (.int .u8 (winB n bs)) ∧ Below w.heap.size w w' := by
  have HS := Aside0.mk hs
  have HB := Aside0.mk hb
  have qn : ∀ (w : World) (a : Option Addr) (n c n' c' : Nat), (binOp .neq 34 (.slice a n c) (.slice none n' c')).run Tryd.prog w = .ok (.bool (!a.isNone)) w := fun w a n c n' c' => run_neq_slice_nil_any w _ _ a n c n' c' Tryd.underlying34
  have kc := fun (w : World) (C : Array Value) (n c : Nat) => Lib.run_convert_bytes_const (P := Tryd.prog) w 60 5 C n c Tryd.underlying60 Tryd.underlying5
  clear hs hb
  go_enter Tryd.func51, Tryd.ntmps51
  go_wp2_with fail
  have hbl : Below w.heap.size w (w.alloc (.cells #[.int .u8 120, .int .u8 111] 5 (2, 3))) := below_alloc (Below.refl _ _) _
  have HC : Aside0 (∀ j, (w.alloc (.cells #[.int .u8 120, .int .u8 111] 5 (2, 3))).cell? ⟨w.heap.size, j, none⟩ = (#[.int .u8 120, .int .u8 111] : Array Value)[j]?) := ⟨fun j => World.cell?_alloc_mark w _ _ _ j⟩
  have HLt : Aside0 (w.heap.size < (w.alloc (.cells #[.int .u8 120, .int .u8 111] 5 (2, 3))).heap.size) := ⟨by simp⟩
  have HBl := Aside0.mk hbl
  clear hbl kc
  generalize w.alloc (.cells #[.int .u8 120, .int .u8 111] 5 (2, 3)) = W0 at *
  obtain ⟨gx, hgx⟩ : ∃ gx, w.heap.size = gx := ⟨_, rfl⟩
  rw [hgx] at HC HLt ⊢
  clear hgx
  go_loopw [8] (fun v8 wr => ∃ k : Nat, k ≤ 2 ∧ v8 = .int .i64 (k : Int) ∧ Aside0 (∀ j, j < k → brO n bs (plr j) = none) ∧ Aside0 (Below W0.heap.size W0 wr)) (fun v _ => 2 - (intOf v).toNat)
  case atStart => exact ⟨0, Nat.zero_le _, rfl, ⟨fun j hj => absurd hj (by omega)⟩, ⟨Below.refl _ _⟩⟩
  case round =>
    obtain ⟨k, hk, rfl, HN, HBr⟩ := hrel
    have hcx : ∀ j, wr.cell? ⟨gx, j, none⟩ = (#[.int .u8 120, .int .u8 111] : Array Value)[j]? := fun j => (HBr.out.cell HLt.out).trans (HC.out j)
    by_cases hk2 : k < 2
    · have ck : wr.cell? ⟨gx, k, none⟩ = some (.int .u8 (plr k)) := by
        rw [hcx k]
        match k, hk2 with
        | 0, _ => rfl
        | 1, _ => rfl
      have HBw := Aside0.mk (below_then HBl.out HBl.out.size HBr.out)
      have HBr2 := Aside0.mk (bridge_any g n gb cb bs (plr k) wr (HS.out.later HBw.out) (HB.out.later HBw.out))
      cases hbr : brO n bs (plr k) with
      | none =>
        have HN2 : Aside0 (∀ j, j < k + 1 → brO n bs (plr j) = none) := ⟨fun j hj => by
          rcases Nat.lt_or_ge j k with h | h
          · exact HN.out j h
          · obtain rfl : j = k := by omega
            exact hbr⟩
        have hbp : ∀ e w', BrPost n bs (plr k) wr e w' → e = .returned (.slice none 0 0) ∧ Below wr.heap.size wr w' := fun e w' h => by
          unfold BrPost at h
          rw [hbr] at h
          exact ⟨h.2, h.1⟩
        have HBP := Aside0.mk hbp
        clear hbr hbp hcx
        generalize plr k = pk at *
        go_wp2_with fail
        refine HBr2.out.mono ?_
        intro e w2 h2
        obtain ⟨rfl, hb2⟩ := HBP.out e w2 h2
        have HB2 := Aside0.mk (below_then HBr.out HBr.out.size hb2)
        clear h2 hb2
        go_wp2_with fail
        go_roundw
        case rel => exact ⟨k + 1, hk2, by go_num, HN2, HB2⟩
        case measure => simp [intOf]; omega
      | some G =>
        have hw : winB n bs = plr k := by
          unfold winB
          match k, hk2 with
          | 0, _ => rw [show (120 : Int) = plr 0 from rfl, hbr]; rfl
          | 1, _ =>
            have h0 := HN.out 0 (by omega)
            rw [show (120 : Int) = plr 0 from rfl, h0, show (111 : Int) = plr 1 from rfl, hbr]; rfl
        have HW := Aside0.mk hw
        have hbp : ∀ e w', BrPost n bs (plr k) wr e w' → ∃ A c, e = .returned (.slice (some A) G.length c) ∧ Below wr.heap.size wr w' := fun e w' h => by
          unfold BrPost at h
          rw [hbr] at h
          obtain ⟨h1, A, c, h2, _⟩ := h
          exact ⟨A, c, h2, h1⟩
        have HBP := Aside0.mk hbp
        clear hbr hbp hcx hw
        generalize plr k = pk at *
        go_wp2_with fail
        refine HBr2.out.mono ?_
        intro e w2 h2
        obtain ⟨A2, c2, rfl, hb2⟩ := HBP.out e w2 h2
        have HB2 := Aside0.mk (below_then HBw.out HBw.out.size hb2)
        clear h2 hb2
        go_wp2_with fail
        go_ret
        exact ⟨by rw [HW.out]; rfl, HB2.out⟩
    · obtain rfl : k = 2 := by omega
      have hw : winB n bs = 0 := by
        unfold winB
        rw [show (120 : Int) = plr 0 from rfl, HN.out 0 (by omega), show (111 : Int) = plr 1 from rfl, HN.out 1 (by omega)]; rfl
      have HW := Aside0.mk hw
      clear hw hcx
      go_wp2_with fail
      go_ret
      exact ⟨by rw [HW.out]; rfl, below_then HBl.out HBl.out.size HBr.out⟩
end Go.Proofs.YtlmgkmmdaecpdaaDoor.Im

namespace Go.Proofs.YtlmgkmmdaecpdaaDoor.Im
open Go.RowKit Go.Proofs.YtlmgkmmdaecpdaaDoorW.PrintWords Go.Proofs.YtlmgkmmdaecpdaaDoorW.PrintLast Go.Proofs.YtlmgkmmdaecpdaaDoorW.PrintMore Go.Proofs.YtlmgkmmdaecpdaaDoor.Mi
set_option linter.unusedVariables false
theorem dw_nil {p : UInt8 → Bool} : ∀ {l : List UInt8}, l.dropWhile p = [] ↔ l.all p = true
  | [] => by simp
  | a :: l => by
    by_cases h : p a = true
    · rw [List.dropWhile_cons_of_pos h, dw_nil, List.all_cons, h]; simp
    · rw [List.dropWhile_cons_of_neg h, List.all_cons]
      have : p a = false := by simpa using h
      rw [this]; simp
theorem dw_all {p : UInt8 → Bool} : ∀ {l : List UInt8}, (l.dropWhile p).all p = l.all p
  | [] => rfl
  | a :: l => by
    by_cases h : p a = true
    · rw [List.dropWhile_cons_of_pos h, dw_all, List.all_cons, h]; rfl
    · rw [List.dropWhile_cons_of_neg h]
theorem trim_nil (l cs : List UInt8) : Lib.trimS l cs = [] ↔ l.all (cs.contains ·) = true := by
  unfold Lib.trimS Lib.trimLeftS Lib.trimRightS
  rw [dw_nil, List.all_reverse, dw_all, List.all_reverse]
theorem trim_any (s : ByteArray) (w : World) (cs : ByteArray) (hs : s.size ≤ 9223372036854775807) (hcs : cs.size < 4294967281) (ha : cs.data.toList.all (fun b => decide (b.toNat < 128)) = true) :
    Calls Tryd.prog 77 #[.string s, .string cs] w fun e w' => e = .returned (.string ⟨(Lib.trimS s.data.toList cs.data.toList).toArray⟩) ∧ Below w.heap.size w w' :=
  Any.strings_Trim_laid Tryd.lays160 (by kernel_rfl) s cs w hs hcs (ascii_of_all ha)
def boE (n : Int) (s cs : ByteArray) : Int := if n < 1 ∨ 11 < n then 2 else if (s.size : Int) = n * n ∧ s.data.toList.all (cs.data.toList.contains ·) = true then 0 else 5
def bsOf (s : ByteArray) : List Int := s.data.toList.map fun b => (b.toNat : Int)
theorem bsOf_len (s : ByteArray) : (bsOf s).length = s.size := by
  unfold bsOf
  rw [List.length_map, Array.length_toList]
  rfl
def Byts (w : World) (gb m : Nat) (bs : List Int) : Prop := ∃ (cells : Array Value) (k : Nat), w.heap[gb]? = some (.cells cells 5 (k, k + 1)) ∧ cells.size = k ∧ m ≤ k ∧ ∀ j, j < m → cells[j]? = some (.int .u8 (bs.getD j 0))
theorem Byts.later {w w' : World} {gb m : Nat} {bs : List Int} (h : Byts w gb m bs) (hb : Below w.heap.size w w') : Byts w' gb m bs := by
  obtain ⟨cells, k, h1, h2, h3, h4⟩ := h
  have hlt : gb < w.heap.size := by
    rcases Nat.lt_or_ge gb w.heap.size with h | h
    · exact h
    · rw [Array.getElem?_eq_none h] at h1; cases h1
  exact ⟨cells, k, (hb.block gb hlt).trans h1, h2, h3, h4⟩
def BoardedPost (n : Int) (s cs : ByteArray) (w : World) (e : Ending) (w' : World) : Prop :=
  Below w.heap.size w w' ∧ if boE n s cs = 0 then ∃ g gb cb, e = .returned (.tuple #[.pointer (some ⟨g, 0, none⟩), .int .i64 0]) ∧ Brd w' g n.toNat gb cb (bsOf s) ∧ Byts w' gb s.size (bsOf s) ∧ w.heap.size ≤ gb ∧ gb < g
    else e = .returned (.tuple #[.pointer none, .int .i64 (boE n s cs)])
theorem C_of_byts {w : World} {gb m : Nat} {bs : List Int} (h : Byts w gb m bs) (hl : bs.length = m) (hm : m ≤ 9223372036854775807) : Kd.C (Kd.int .u8) w (some ⟨gb, 0, none⟩) m bs := by
  obtain ⟨cells, k, h1, h2, h3, h4⟩ := h
  refine ⟨hl, hm, fun _ => ⟨⟨gb, 0, none⟩, rfl, fun j p hp => ?_⟩⟩
  have hj : j < m := by
    rcases Nat.lt_or_ge j m with h | h
    · exact h
    · rw [List.getElem?_eq_none (by omega)] at hp; cases hp
  refine ⟨[.int .u8 p], rfl, rfl, fun i u hu => ?_⟩
  match i, hu with
  | 0, hu =>
    simp at hu; subst hu
    have e : (⟨gb, 0, none⟩ : Addr).add (j * (Kd.int .u8).sz + 0) = ⟨gb, j, none⟩ := by
      have : j * (Kd.int .u8).sz + 0 = j := by show j * 1 + 0 = j; omega
      rw [this]; unfold Addr.add; by_cases h : j = 0 <;> simp [h]
    rw [e]
    show w.cell? ⟨gb, j, none⟩ = _
    unfold World.cell?
    have hg : bs.getD j 0 = p := by rw [List.getD_eq_getElem?_getD, hp]; rfl
    have := h4 j hj
    rw [hg] at this
    simp [h1, this]
set_option maxHeartbeats 3200000 in
set_option maxRecDepth 100000 in
theorem boarded_any (n : Int) (s cs : ByteArray) (w : World) (hs : s.size ≤ 9223372036854775807) (hcs : cs.size < 4294967281) (ha : cs.data.toList.all (fun b => decide (b.toNat < 128)) = true) :
    Calls Tryd.prog 42 #[.int .i64 n, .string s, .string cs] w (BoardedPost n s cs w) := by
  have HT := Aside0.mk (fun w1 => trim_any s w1 cs hs hcs ha)
  clear ha hcs
  by_cases h1 : n < 1
  · have hE : boE n s cs = 2 := by unfold boE; rw [if_pos (.inl h1)]
    have HP : Aside0 (∀ w', Below w.heap.size w w' → BoardedPost n s cs w (.returned (.tuple #[.pointer none, .int .i64 2])) w') := ⟨fun w' hb => ⟨hb, by rw [hE, if_neg (by omega)]⟩⟩
    clear hE HT
    go_enter Tryd.func42, Tryd.ntmps42
    go_wp2_with fail
    go_ret2
    exact HP.out _ (Below.refl _ _)
  · by_cases h2 : 11 < n
    · have hE : boE n s cs = 2 := by unfold boE; rw [if_pos (.inr h2)]
      have HP : Aside0 (∀ w', Below w.heap.size w w' → BoardedPost n s cs w (.returned (.tuple #[.pointer none, .int .i64 2])) w') := ⟨fun w' hb => ⟨hb, by rw [hE, if_neg (by omega)]⟩⟩
      clear hE HT
      go_enter Tryd.func42, Tryd.ntmps42
      go_wp2_with fail
      go_ret2
      exact HP.out _ (Below.refl _ _)
    · obtain ⟨m, rfl⟩ : ∃ m : Nat, n = m := ⟨n.toNat, by omega⟩
      have hmm : m * m ≤ 121 := Nat.mul_le_mul (show m ≤ 11 by omega) (show m ≤ 11 by omega)
      have hww : wrap64 ((m : Int) * (m : Int)) = ((m * m : Nat) : Int) := by rw [← Int.natCast_mul]; unfold wrap64; omega
      by_cases h3 : s.size = m * m
      · have h3' : ((s.size : Int) == (m : Int) * (m : Int)) = true := beq_iff_eq.2 (by rw [← Int.natCast_mul]; omega)
        have h3'' : ((s.size : Int) != (m : Int) * (m : Int)) = false := by rw [bne, h3']; rfl
        have hem : (⟨(Lib.trimS s.data.toList cs.data.toList).toArray⟩ : ByteArray).toList.isEmpty = s.data.toList.all (cs.data.toList.contains ·) := by
          rw [ByteArray.toList_mk, Bool.eq_iff_iff, List.isEmpty_iff, trim_nil]
        generalize (⟨(Lib.trimS s.data.toList cs.data.toList).toArray⟩ : ByteArray) = r at *
        cases h4 : s.data.toList.all (cs.data.toList.contains ·) with
        | false =>
          rw [h4] at hem
          have hE : boE m s cs = 5 := by unfold boE; rw [if_neg (by omega), if_neg (by rw [h4]; simp)]
          have HP : Aside0 (∀ w', Below w.heap.size w w' → BoardedPost m s cs w (.returned (.tuple #[.pointer none, .int .i64 5])) w') := ⟨fun w' hb => ⟨hb, by rw [hE, if_neg (by omega)]⟩⟩
          clear hE h4 h3
          go_enter Tryd.func42, Tryd.ntmps42
          go_wp2_with (first | (go_at_call 77; refine (HT.out _).mono ?_; rintro e w2 ⟨rfl, hb2⟩; have HB := Aside0.mk hb2; clear hb2))
          go_ret2
          exact HP.out _ HB.out
        | true =>
          rw [h4] at hem
          have hE : boE m s cs = 0 := by unfold boE; rw [if_neg (by omega), if_pos ⟨by rw [← Int.natCast_mul]; omega, h4⟩]
          have kc := fun (w : World) => Lib.run_convert_string_bytes (P := Tryd.prog) w 9 60 5 s Tryd.underlying9 Tryd.underlying60 Tryd.underlying5
          have HE := Aside0.mk hE
          have H3 := Aside0.mk h3
          clear hE h4 h3
          go_enter Tryd.func42, Tryd.ntmps42
          go_wp2_with (first | (go_at_call 77; refine (HT.out _).mono ?_; rintro e w2 ⟨rfl, hb2⟩; have HB := Aside0.mk hb2; clear hb2))
          go_ret2
          have hB2 : Below w2.heap.size w2 (Lib.bytesWorld w2 5 s) := ⟨rfl, rfl, rfl, by rw [Lib.bytesWorld_size]; omega, fun i hi => Lib.bytesWorld_at_old w2 _ s i hi⟩
          have hB3 := below_then hB2 hB2.size (below_alloc (Below.refl _ _) (.cells #[.int .i64 (m : Nat), .slice (some ⟨w2.heap.size, 0, none⟩) s.size (grownCap w2 s.size 0 5)] 89))
          refine ⟨below_then HB.out HB.out.size hB3, ?_⟩
          rw [if_pos HE.out]
          have hsz := Lib.bytesWorld_size w2 5 s
          have hby : Byts (Lib.bytesWorld w2 5 s) w2.heap.size s.size (bsOf s) := by
            refine ⟨Lib.bytesCells w2 5 s, _, Lib.bytesWorld_at_new w2 _ s, rfl, ?_, fun j hj => ?_⟩
            · unfold Lib.bytesCells
              rw [Array.size_append, Array.size_map]
              exact Nat.le_add_right _ _
            · have hj' : j < s.data.size := hj
              have hb : (bsOf s).getD j 0 = (s.data[j].toNat : Int) := by unfold bsOf; simp only [List.getD_eq_getElem?_getD, List.getElem?_map, Array.getElem?_toList]; rw [Array.getElem?_eq_getElem hj']; rfl
              rw [hb]
              unfold Lib.bytesCells
              rw [Array.getElem?_append_left (by simpa using hj'), Array.getElem?_map, Array.getElem?_eq_getElem hj']
              rfl
          have hby3 := hby.later (below_alloc (Below.refl _ _) (.cells #[.int .i64 (m : Nat), .slice (some ⟨w2.heap.size, 0, none⟩) s.size (grownCap w2 s.size 0 5)] 89))
          refine ⟨(Lib.bytesWorld w2 5 s).heap.size, w2.heap.size, grownCap w2 s.size 0 5, rfl, ⟨?_, ?_, by rw [bsOf_len, H3.out]; rfl, by omega, by omega⟩, hby3, HB.out.size, by rw [hsz]; omega⟩
          · have h := Blk.new (Lib.bytesWorld w2 5 s) 89 #[.int .i64 (m : Nat), .slice (some ⟨w2.heap.size, 0, none⟩) s.size (grownCap w2 s.size 0 5)]
            have e : (m : Int).toNat = m := Int.toNat_natCast m
            rw [e, ← H3.out]
            exact h
          · have e : (m : Int).toNat = m := Int.toNat_natCast m
            rw [e, ← H3.out]
            exact C_of_byts hby3 (bsOf_len s) hs
      · have h3' : ((s.size : Int) == (m : Int) * (m : Int)) = false := beq_eq_false_iff_ne.2 (by rw [← Int.natCast_mul]; omega)
        have h3'' : ((s.size : Int) != (m : Int) * (m : Int)) = true := by rw [bne, h3']; rfl
        have hE : boE m s cs = 5 := by unfold boE; rw [if_neg (by omega), if_neg (by rw [← Int.natCast_mul]; omega)]
        have HP : Aside0 (∀ w', Below w.heap.size w w' → BoardedPost m s cs w (.returned (.tuple #[.pointer none, .int .i64 5])) w') := ⟨fun w' hb => ⟨hb, by rw [hE, if_neg (by omega)]⟩⟩
        clear hE HT h3
        go_enter Tryd.func42, Tryd.ntmps42
        go_wp2_with fail
        go_ret2
        exact HP.out _ (Below.refl _ _)
end Go.Proofs.YtlmgkmmdaecpdaaDoor.Im

namespace Go.Proofs.YtlmgkmmdaecpdaaDoor.Mi
set_option linter.unusedVariables false
theorem min_ex (p : Nat → Prop) : ∀ n, p n → ∃ k, p k ∧ ∀ m, p m → k ≤ m := by
  intro n
  induction n using Nat.strongRecOn with
  | _ n ih =>
    intro hn
    by_cases h : ∃ m, m < n ∧ p m
    · obtain ⟨m, h1, h2⟩ := h
      exact ih m h1 h2
    · exact ⟨n, hn, fun m hm => by
        rcases Nat.lt_or_ge m n with h1 | h1
        · exact absurd ⟨m, h1, hm⟩ h
        · exact h1⟩
section
variable {m : Nat} {nb : Nat → Nat → Prop} {ok be en : Nat → Prop} {c : Nat → Nat}
theorem Least.pos {a d : Nat} (h : Dist m nb ok en a d) : a < m ∧ ok a ∧ 1 ≤ d := by
  obtain ⟨P, k1, k2, k3⟩ := h.real
  match P, k1, k2, k3 with
  | [], k1, _, _ => exact absurd rfl k1.ne
  | q :: t, k1, k2, k3 =>
    have k2 : q = a := k2
    subst k2
    have := k1.mem q (by simp)
    have k3 : 1 + costN one t = d := k3
    exact ⟨this.1, this.2, by omega⟩
theorem greedy_ex : ∀ (d a : Nat), Dist m nb ok en a (d + 1) → ∃ t, t.length = d ∧ Wy m nb ok en (a :: t) ∧ Greedy m nb ok en (a :: t)
  | 0, a, h => by
    have h1 := Dist.end_ h
    exact ⟨[], rfl, Wy.one h1.2.1 h1.2.2 h1.1, trivial⟩
  | d + 1, a, h => by
    obtain ⟨j0, h1, h2⟩ := Dist.next h
    obtain ⟨j, ⟨k1, k2⟩, k3⟩ := min_ex (fun j => nb a j ∧ Dist m nb ok en j (d + 1)) j0 ⟨h1, h2⟩
    obtain ⟨t, l1, l2, l3⟩ := greedy_ex d j k2
    have ha := Least.pos h
    refine ⟨j :: t, by simp [l1], l2.cons ha.1 ha.2.1 k1, ⟨k1, fun x hx hd => k3 x ⟨hx, ?_⟩⟩, l3⟩
    rw [l1] at hd
    exact hd
theorem First.ex {P : List Nat} (hP : Wy m nb ok en P) (hb : be (headN P)) : ∃ G, First m nb ok be en G := by
  obtain ⟨e, he⟩ := Least.ex (c := one) (a := headN P) _ ⟨P, hP, rfl, Nat.le_refl _⟩
  obtain ⟨d, ⟨a0, h1, h2⟩, h3⟩ := min_ex (fun d => ∃ a, be a ∧ Dist m nb ok en a d) e ⟨_, hb, he⟩
  obtain ⟨a, ⟨k1, k2⟩, k3⟩ := min_ex (fun a => be a ∧ Dist m nb ok en a d) a0 ⟨h1, h2⟩
  obtain ⟨r, rfl⟩ : ∃ r, d = r + 1 := ⟨d - 1, by have := (Least.pos k2).2.2; omega⟩
  obtain ⟨t, l1, l2, l3⟩ := greedy_ex r a k2
  have hl : (a :: t).length = r + 1 := by simp [l1]
  exact ⟨a :: t, l2, k1, by rw [hl]; exact k2, fun x d' hx hd => by rw [hl]; exact h3 d' ⟨x, hx, hd⟩, fun x hx hd => by rw [hl] at hd; exact k3 x ⟨hx, hd⟩, l3⟩
theorem Need.ex {P : List Nat} (hP : Wy m nb ok en P) (hb : be (headN P)) : ∃ d, Need m nb ok be en c d := by
  obtain ⟨d, ⟨Q, h1, h2, h3⟩, h4⟩ := min_ex (fun d => ∃ Q, Wy m nb ok en Q ∧ be (headN Q) ∧ costN c Q = d) _ ⟨P, hP, hb, rfl⟩
  exact ⟨d, ⟨Q, h1, h2, h3⟩, fun R r1 r2 => h4 _ ⟨R, r1, r2, rfl⟩⟩
end
end Go.Proofs.YtlmgkmmdaecpdaaDoor.Mi

namespace Go.Proofs.YtlmgkmmdaecpdaaDoor.Im
open Go.RowKit Go.Proofs.YtlmgkmmdaecpdaaDoorW.PrintWords Go.Proofs.YtlmgkmmdaecpdaaDoorW.PrintLast Go.Proofs.YtlmgkmmdaecpdaaDoorW.PrintMore Go.Proofs.YtlmgkmmdaecpdaaDoor.Mi
set_option linter.unusedVariables false
def xoB : ByteArray := ⟨#[120, 111]⟩
def xodB : ByteArray := ⟨#[120, 111, 46]⟩
theorem full_byte {n : Int} {s : ByteArray} (h : boE n s xoB = 0) {a : Nat} (ha : a < s.size) : (bsOf s).getD a 0 = 120 ∨ (bsOf s).getD a 0 = 111 := by
  unfold boE at h
  split at h
  · cases h
  · split at h
    · rename_i h2
      have ha' : a < s.data.size := ha
      have e : (bsOf s).getD a 0 = (s.data[a].toNat : Int) := by unfold bsOf; simp only [List.getD_eq_getElem?_getD, List.getElem?_map, Array.getElem?_toList]; rw [Array.getElem?_eq_getElem ha']; rfl
      have h3 := List.all_eq_true.1 h2.2 s.data[a] (by simp)
      have h4 : s.data[a] = 120 ∨ s.data[a] = 111 := by simpa [xoB] using h3
      rw [e]
      rcases h4 with h4 | h4
      · left; rw [h4]; rfl
      · right; rw [h4]; rfl
    · cases h
theorem boE_ok {n : Int} {s cs : ByteArray} (h : boE n s cs = 0) : 1 ≤ n ∧ n ≤ 11 ∧ s.size = n.toNat * n.toNat := by
  unfold boE at h
  split at h
  · cases h
  · split at h
    · rename_i h1 h2
      refine ⟨by omega, by omega, ?_⟩
      obtain ⟨m, rfl⟩ : ∃ m : Nat, n = m := ⟨n.toNat, by omega⟩
      have := h2.1
      rw [Int.toNat_natCast]
      rw [← Int.natCast_mul] at this
      omega
    · cases h
theorem enP_x {n a : Nat} : enP n 120 a ↔ Side n true (n - 1) a := by unfold enP endK Side; simp
theorem enP_o {n a : Nat} : enP n 111 a ↔ Side n false (n - 1) a := by unfold enP endK Side; simp
theorem beP_x {n a : Nat} : beP n 120 a ↔ Side n true 0 a := by unfold beP endK Side; simp
theorem beP_o {n a : Nat} : beP n 111 a ↔ Side n false 0 a := by unfold beP endK Side; simp
theorem brO_ex {n : Nat} {bs : List Int} {p : Int} {P : List Nat} (h : WyP n bs p P) (hb : beP n p (headN P)) : (brO n bs p).isSome := by
  obtain ⟨G, hG⟩ := First.ex h hb
  rw [brO_some hG]
  rfl
theorem full_one {n : Nat} {bs : List Int} (hn : 0 < n) (hf : ∀ a, a < n * n → bs.getD a 0 = 120 ∨ bs.getD a 0 = 111) : ((brO n bs 120).isSome ∧ brO n bs 111 = none ∧ winB n bs = 120) ∨ (brO n bs 120 = none ∧ (brO n bs 111).isSome ∧ winB n bs = 111) := by
  have tr : ∀ (x : Bool) P, Bridge n (fun a => bs.getD a 0 = 120) x P ↔ WyP n bs (if x then 120 else 111) P ∧ beP n (if x then 120 else 111) (headN P) := fun x P => by
    cases x with
    | true =>
      constructor
      · rintro ⟨h1, h2⟩
        exact ⟨⟨h1.ne, h1.chain, fun q hq => ⟨(h1.mem q hq).1, by have h := (h1.mem q hq).2; simp only [if_true] at h; exact h⟩, enP_x.2 h1.fin⟩, beP_x.2 h2⟩
      · rintro ⟨h1, h2⟩
        exact ⟨⟨h1.ne, h1.chain, fun q hq => ⟨(h1.mem q hq).1, by simp only [if_true]; exact (h1.mem q hq).2⟩, enP_x.1 h1.fin⟩, beP_x.1 h2⟩
    | false =>
      constructor
      · rintro ⟨h1, h2⟩
        exact ⟨⟨h1.ne, h1.chain, fun q hq => ⟨(h1.mem q hq).1, by
          have h3 : ¬ bs.getD q 0 = 120 := by simpa using (h1.mem q hq).2
          rcases hf q (h1.mem q hq).1 with h4 | h4
          · exact absurd h4 h3
          · exact h4⟩, enP_o.2 h1.fin⟩, beP_o.2 h2⟩
      · rintro ⟨h1, h2⟩
        exact ⟨⟨h1.ne, h1.chain, fun q hq => ⟨(h1.mem q hq).1, by
          have h3 : bs.getD q 0 = 111 := (h1.mem q hq).2
          show ¬ bs.getD q 0 = 120
          rw [h3]; decide⟩, enP_o.1 h1.fin⟩, beP_o.1 h2⟩
  have no : ∀ {p : Int}, (∀ P, WyP n bs p P → ¬ beP n p (headN P)) → brO n bs p = none := fun h => brO_none h
  rcases bridge_one hn (fun a => bs.getD a 0 = 120) with ⟨P, hP⟩ | ⟨P, hP⟩
  · left
    have h1 := (tr true P).1 hP
    have h2 := brO_ex h1.1 h1.2
    have h2 : (brO n bs 120).isSome := h2
    refine ⟨h2, no fun Q hQ hb => bridge_both hn hP ((tr false Q).2 ⟨hQ, hb⟩), ?_⟩
    unfold winB
    rw [if_pos h2]
  · right
    have h1 := (tr false P).1 hP
    have h2 : (brO n bs 111).isSome := brO_ex h1.1 h1.2
    have h3 : brO n bs 120 = none := no fun Q hQ hb => bridge_both hn ((tr true Q).2 ⟨hQ, hb⟩) hP
    refine ⟨h3, h2, ?_⟩
    unfold winB
    rw [h3, if_neg (by simp), if_pos h2]
theorem run_rune_x (w : World) : (convert 21 9 (.int .i32 120)).run Tryd.prog w = .ok (.string ⟨#[120]⟩) w := by kernel_rfl
theorem run_rune_o (w : World) : (convert 21 9 (.int .i32 111)).run Tryd.prog w = .ok (.string ⟨#[111]⟩) w := by kernel_rfl
def strP (p : Int) : ByteArray := ⟨#[UInt8.ofNat p.toNat]⟩
def WinnerPost (n : Int) (s : ByteArray) (w : World) (e : Ending) (w' : World) : Prop :=
  Below w.heap.size w w' ∧ if boE n s xoB = 0 then ∃ G A c, brO n.toNat (bsOf s) (winB n.toNat (bsOf s)) = some G ∧ e = .returned (.tuple #[.string (strP (winB n.toNat (bsOf s))), .slice (some A) G.length c, .int .i64 0]) ∧ Kd.R (Kd.int .i64) 3 w' w.heap.size (fun _ => True) (.slice (some A) G.length c) (ints G)
    else e = .returned (.tuple #[.string ⟨#[]⟩, .slice none 0 0, .int .i64 (boE n s xoB)])
set_option maxHeartbeats 3200000 in
set_option maxRecDepth 100000 in
theorem winner_call (n : Int) (s : ByteArray) (w : World) (hst : Steps w) (hs : s.size ≤ 9223372036854775807) :
    Calls Tryd.prog 24 #[.int .i64 n, .string s] w (WinnerPost n s w) := by
  have HBo := Aside0.mk (boarded_any n s xoB w hs (by decide) (by decide))
  have HS := Aside0.mk hst
  unfold xoB at HBo
  clear hst hs
  by_cases hE : boE n s xoB = 0
  · have hok := boE_ok hE
    have hone := full_one (bs := bsOf s) (n := n.toNat) (by omega) (fun a ha => full_byte hE (by omega))
    have HE := Aside0.mk hE
    have HO := Aside0.mk hone
    clear hE hok hone
    go_enter Tryd.func24, Tryd.ntmps24
    go_wp2_with fail
    refine HBo.out.mono ?_
    rintro e w1 ⟨hb1, h1⟩
    have h1' := h1
    unfold xoB at HE
    rw [if_pos HE.out] at h1
    obtain ⟨g, gb, cb, rfl, hbr, hby, _, _⟩ := h1
    have HB1 := Aside0.mk hb1
    have HBr := Aside0.mk hbr
    clear h1' hb1 hby hbr
    go_wp2_with fail
    refine (winner_any g _ gb cb _ _ (HS.out.later HB1.out) HBr.out).mono ?_
    rintro e w2 ⟨rfl, hb2⟩
    have HB2 := Aside0.mk (below_then HB1.out HB1.out.size hb2)
    have HBr2 := Aside0.mk (HBr.out.later hb2)
    clear hb2
    rcases HO.out with ⟨h1, h2, h3⟩ | ⟨h1, h2, h3⟩
    · obtain ⟨G, hG⟩ := Option.isSome_iff_exists.1 h1
      have hr := run_rune_x
      have HG := Aside0.mk hG
      have HW := Aside0.mk h3
      have HCall := Aside0.mk (bridge_any g _ gb cb _ 120 w2 (HS.out.later HB2.out) HBr2.out)
      rw [h3]
      clear h1 h2 h3 hG HO
      go_wp2_with fail
      refine HCall.out.mono ?_
      rintro e w3 ⟨hb3, h4⟩
      rw [HG.out] at h4
      obtain ⟨A, c, rfl, hR⟩ := h4
      have HB3 := Aside0.mk (below_then HB2.out HB2.out.size hb3)
      have HR := Aside0.mk (Kd.R_lower hR HB2.out.size)
      clear hb3 hR
      go_wp2_with fail
      go_ret3
      refine ⟨HB3.out, ?_⟩
      unfold xoB
      rw [if_pos HE.out]
      exact ⟨G, A, c, by rw [HW.out]; exact HG.out, by rw [HW.out]; rfl, HR.out⟩
    · obtain ⟨G, hG⟩ := Option.isSome_iff_exists.1 h2
      have hr := run_rune_o
      have HG := Aside0.mk hG
      have HW := Aside0.mk h3
      have HCall := Aside0.mk (bridge_any g _ gb cb _ 111 w2 (HS.out.later HB2.out) HBr2.out)
      rw [h3]
      clear h1 h2 h3 hG HO
      go_wp2_with fail
      refine HCall.out.mono ?_
      rintro e w3 ⟨hb3, h4⟩
      rw [HG.out] at h4
      obtain ⟨A, c, rfl, hR⟩ := h4
      have HB3 := Aside0.mk (below_then HB2.out HB2.out.size hb3)
      have HR := Aside0.mk (Kd.R_lower hR HB2.out.size)
      clear hb3 hR
      go_wp2_with fail
      go_ret3
      refine ⟨HB3.out, ?_⟩
      unfold xoB
      rw [if_pos HE.out]
      exact ⟨G, A, c, by rw [HW.out]; exact HG.out, by rw [HW.out]; rfl, HR.out⟩
  · have HE := Aside0.mk hE
    have hne : (boE n s xoB == 0) = false := beq_eq_false_iff_ne.2 hE
    have hne' : (boE n s xoB != 0) = true := bne_iff_ne.2 hE
    unfold xoB at HE hne hne'
    clear hE
    go_enter Tryd.func24, Tryd.ntmps24
    go_wp2_with fail
    refine HBo.out.mono ?_
    rintro e w1 ⟨hb1, h1⟩
    rw [if_neg HE.out] at h1
    subst h1
    have HB1 := Aside0.mk hb1
    clear hb1
    go_wp2_with fail
    go_ret3
    refine ⟨HB1.out, ?_⟩
    unfold xoB
    rw [if_neg HE.out]
    rfl
end Go.Proofs.YtlmgkmmdaecpdaaDoor.Im

namespace Go.Proofs.YtlmgkmmdaecpdaaDoor.Im
open Go.RowKit Go.Proofs.YtlmgkmmdaecpdaaDoorW.PrintWords Go.Proofs.YtlmgkmmdaecpdaaDoorW.PrintLast Go.Proofs.YtlmgkmmdaecpdaaDoorW.PrintMore Go.Proofs.YtlmgkmmdaecpdaaDoor.Mi
set_option linter.unusedVariables false
def cost0 (p c : Int) : Int := if c = p then 0 else if c = 46 then 1 else -1
theorem cost0_le (p c : Int) : cost0 p c ≤ 1 := by unfold cost0; split <;> (try split) <;> omega
abbrev NeedP (n : Nat) (bs : List Int) (p : Int) (d : Nat) : Prop := Need (n * n) (NearN n) (okC bs (cost0 p)) (beP n p) (enP n p) (coC bs (cost0 p)) d
noncomputable def needO (n : Nat) (bs : List Int) (p : Int) : Option Nat := open Classical in if h : ∃ d, NeedP n bs p d then some (Classical.choose h) else none
theorem needO_some {n : Nat} {bs : List Int} {p : Int} {d : Nat} (h : NeedP n bs p d) : needO n bs p = some d := by
  have hex : ∃ d, NeedP n bs p d := ⟨d, h⟩
  unfold needO
  rw [dif_pos hex, (Classical.choose_spec hex).unique h]
theorem needO_none {n : Nat} {bs : List Int} {p : Int} (h : ∀ P, Wy (n * n) (NearN n) (okC bs (cost0 p)) (enP n p) P → ¬ beP n p (headN P)) : needO n bs p = none := by
  unfold needO
  rw [dif_neg]
  rintro ⟨d, hd⟩
  obtain ⟨P, h1, h2, _⟩ := hd.real
  exact h P h1 h2
structure LeastI (n : Nat) (p : Int) (out : Nat → Option Nat) (i : Nat) (b : Option Nat) : Prop where
  no : b = none → ∀ x, x < i → beP n p x → out x = none
  yes : ∀ d, b = some d → (∃ a, a < i ∧ beP n p a ∧ out a = some d) ∧ ∀ x, x < i → beP n p x → ∀ e, out x = some e → d ≤ e
theorem LeastI.start (n : Nat) (p : Int) (out : Nat → Option Nat) : LeastI n p out 0 none := ⟨fun _ x hx => absurd hx (by omega), fun d h => by cases h⟩
theorem LeastI.skip {n : Nat} {p : Int} {out : Nat → Option Nat} {i : Nat} {b : Option Nat} (h : LeastI n p out i b) (hs : beP n p i → ∀ e, out i = some e → ∃ d, b = some d ∧ d ≤ e) : LeastI n p out (i + 1) b where
  no := fun hn x hx hb => by
    rcases Nat.lt_or_ge x i with h1 | h1
    · exact h.no hn x h1 hb
    · obtain rfl : x = i := by omega
      cases ho : out x with
      | none => rfl
      | some e =>
        obtain ⟨d, h2, _⟩ := hs hb e ho
        rw [hn] at h2; cases h2
  yes := fun d hd => by
    obtain ⟨⟨a, h1, h2, h3⟩, h4⟩ := h.yes d hd
    refine ⟨⟨a, by omega, h2, h3⟩, fun x hx hb e he => ?_⟩
    rcases Nat.lt_or_ge x i with h5 | h5
    · exact h4 x h5 hb e he
    · obtain rfl : x = i := by omega
      obtain ⟨d', k1, k2⟩ := hs hb e he
      rw [hd] at k1; cases k1
      exact k2
theorem LeastI.take {n : Nat} {p : Int} {out : Nat → Option Nat} {i d : Nat} {b : Option Nat} (h : LeastI n p out i b) (hb : beP n p i) (hd : out i = some d) (hs : ∀ e, b = some e → d < e) : LeastI n p out (i + 1) (some d) where
  no := fun h => by cases h
  yes := fun d' hd' => by
    cases hd'
    refine ⟨⟨i, by omega, hb, hd⟩, fun x hx hbx e he => ?_⟩
    rcases Nat.lt_or_ge x i with h5 | h5
    · cases hbb : b with
      | none => rw [h.no hbb x h5 hbx] at he; cases he
      | some e' =>
        have := hs e' hbb
        have := (h.yes e' hbb).2 x h5 hbx e he
        omega
    · obtain rfl : x = i := by omega
      rw [hd] at he; cases he
      exact Nat.le_refl _
theorem needs_fin {n : Nat} {bs : List Int} {p : Int} {out : Nat → Option Nat} {b : Option Nat} (hF : FarOf n p bs (cost0 p) out) (h : LeastI n p out (n * n) b) : needO n bs p = b := by
  cases b with
  | none =>
    refine needO_none fun P hP hb => ?_
    have h1 := (hP.mem _ (headN_mem hP.ne)).1
    exact (hF _).2 (h.no rfl _ h1 hb) P hP rfl
  | some d =>
    obtain ⟨⟨a, h1, h2, h3⟩, h4⟩ := h.yes d rfl
    refine needO_some (need_of_least ⟨a, h2, (hF a).1 d h3⟩ fun x e hx he => ?_)
    obtain ⟨P, k1, k2, k3⟩ := he.real
    have hx1 : x < n * n := by rw [← k2]; exact (k1.mem _ (headN_mem k1.ne)).1
    cases ho : out x with
    | none => exact absurd k2 ((hF x).2 ho P k1)
    | some e' =>
      have := h4 x hx1 hx e' ho
      rw [((hF x).1 e' ho).unique he] at this
      exact this
def plB (ps : ByteArray) : Bool := ps.toList == [120] || ps.toList == [111]
theorem needs1_any (gp : Nat) (ps : ByteArray) (p c : Int) (w : World) (hl : 0 < ps.size) (hp0 : bt ps 0 = p) (hp : Blk w gp 9 #[.string ps]) :
    Calls Tryd.prog 47 #[.int .u8 c, .pointer (some ⟨gp, 0, none⟩)] w fun e w' => e = .returned (.int .i64 (cost0 p c)) ∧ Below w.heap.size w w' := by
  have c0 : w.cell? ⟨gp, 0, none⟩ = some (.string ps) := hp.cell 0
  have hb0 : ((ps[0]'hl).toNat : Int) = p := by rw [← hp0]; simp [bt, hl]
  unfold cost0
  by_cases h : c = p
  · have h' : (c == p) = true := beq_iff_eq.2 h
    rw [if_pos h]
    clear h hp0
    go_enter Tryd.func47, Tryd.ntmps47
    go_wp2_with fail
    go_ret
    exact ⟨rfl, Below.refl _ _⟩
  · have h' : (c == p) = false := beq_eq_false_iff_ne.2 h
    rw [if_neg h]
    clear h hp0
    by_cases h2 : c = 46
    · have h2' : (c == 46) = true := beq_iff_eq.2 h2
      rw [if_pos h2]
      clear h2
      go_enter Tryd.func47, Tryd.ntmps47
      go_wp2_with fail
      go_ret
      exact ⟨rfl, Below.refl _ _⟩
    · have h2' : (c == 46) = false := beq_eq_false_iff_ne.2 h2
      rw [if_neg h2]
      clear h2
      go_enter Tryd.func47, Tryd.ntmps47
      go_wp2_with fail
      go_ret
      exact ⟨rfl, Below.refl _ _⟩
theorem cost_needs {gp : Nat} {ps : ByteArray} {p : Int} {w : World} (hl : 0 < ps.size) (hp0 : bt ps 0 = p) (hp : Blk w gp 9 #[.string ps]) : CostC w 47 #[.pointer (some ⟨gp, 0, none⟩)] (cost0 p) :=
  ⟨fun args w => by kernel_rfl, fun c w1 h1 => needs1_any gp ps p c w1 hl hp0 (hp.later h1)⟩
end Go.Proofs.YtlmgkmmdaecpdaaDoor.Im

namespace Go.Proofs.YtlmgkmmdaecpdaaDoor.Im
open Go.RowKit Go.Proofs.YtlmgkmmdaecpdaaDoorW.PrintWords Go.Proofs.YtlmgkmmdaecpdaaDoorW.PrintLast Go.Proofs.YtlmgkmmdaecpdaaDoorW.PrintMore Go.Proofs.YtlmgkmmdaecpdaaDoor.Mi
set_option linter.unusedVariables false
noncomputable def needsR (n : Int) (s ps : ByteArray) : Int × Int :=
  if boE n s xodB = 0 then (if plB ps then (match needO n.toNat (bsOf s) (bt ps 0) with | some d => ((d : Nat), 0) | none => (0, 10)) else (0, 2)) else (0, boE n s xodB)
def NeedsPost (n : Int) (s ps : ByteArray) (w : World) (e : Ending) (w' : World) : Prop := Below w.heap.size w w' ∧ e = .returned (.tuple #[.int .i64 (needsR n s ps).1, .int .i64 (needsR n s ps).2])
theorem ps_of {ps : ByteArray} {l : List UInt8} (h : ps.toList = l) : ps = ⟨l.toArray⟩ := by
  obtain ⟨a⟩ := ps
  rw [ByteArray.toList_mk] at h
  rw [← h]
theorem plB_cases (ps : ByteArray) : (plB ps = true ∧ (ps = ⟨#[120]⟩ ∨ ps = ⟨#[111]⟩)) ∨ (plB ps = false ∧ (ps.toList == [120]) = false ∧ (ps.toList == [111]) = false) := by
  unfold plB
  cases h1 : (ps.toList == [120])
  · cases h2 : (ps.toList == [111])
    · exact .inr ⟨rfl, rfl, rfl⟩
    · exact .inl ⟨rfl, .inr (ps_of (eq_of_beq h2))⟩
  · exact .inl ⟨rfl, .inl (ps_of (eq_of_beq h1))⟩
set_option maxHeartbeats 6400000 in
set_option maxRecDepth 100000 in
theorem needs_good (n : Int) (s ps : ByteArray) (p : Int) (hps : ps = ⟨#[120]⟩ ∧ p = 120 ∨ ps = ⟨#[111]⟩ ∧ p = 111) (hE : boE n s xodB = 0) (w : World) (hst : Steps w) (hs : s.size ≤ 9223372036854775807) :
    Calls Tryd.prog 20 #[.int .i64 n, .string s, .string ps] w (NeedsPost n s ps w) := by
  have hpl : plB ps = true := by rcases hps with ⟨rfl, rfl⟩ | ⟨rfl, rfl⟩ <;> (unfold plB; rw [ByteArray.toList_mk]; rfl)
  have hkey : (ps.toList == [120]) = true ∨ ((ps.toList == [120]) = false ∧ (ps.toList == [111]) = true) := by
    rcases hps with ⟨rfl, rfl⟩ | ⟨rfl, rfl⟩
    · left; rw [ByteArray.toList_mk]; rfl
    · right; rw [ByteArray.toList_mk]; exact ⟨rfl, rfl⟩
  have hp0 : bt ps 0 = p := by rcases hps with ⟨rfl, rfl⟩ | ⟨rfl, rfl⟩ <;> rfl
  have hl : 0 < ps.size := by rcases hps with ⟨rfl, rfl⟩ | ⟨rfl, rfl⟩ <;> decide
  have hb0 : ((ps[0]'hl).toNat : Int) = p := by rw [← hp0]; simp [bt, hl]
  have hR : needsR n s ps = (match needO n.toNat (bsOf s) p with | some d => ((d : Nat), 0) | none => (0, 10)) := by unfold needsR; rw [if_pos hE, hpl, if_pos rfl, hp0]
  have HBo := Aside0.mk (fun w => boarded_any n s xodB w hs (by decide) (by decide))
  have hok := boE_ok hE
  have HS := Aside0.mk hst
  have HE := Aside0.mk hE
  have HRR := Aside0.mk hR
  have HP0 := Aside0.mk hp0
  have HL := Aside0.mk hl
  have l0 : (0 : Int) < (ps.size : Int) := by omega
  unfold xodB at HBo HE
  clear hst hs hE hpl hp0 hR hps
  obtain ⟨m, rfl⟩ : ∃ m : Nat, n = m := ⟨n.toNat, by omega⟩
  rw [Int.toNat_natCast] at *
  obtain ⟨M, hM⟩ : ∃ M, m * m = M := ⟨_, rfl⟩
  have HM := Aside0.mk hM
  have hM1 : 1 ≤ M := by rw [← hM]; exact Nat.mul_pos (by omega) (by omega)
  have hM121 : M ≤ 121 := by rw [← hM]; exact Nat.mul_le_mul (show m ≤ 11 by omega) (show m ≤ 11 by omega)
  clear hM
  rcases hkey with k1 | ⟨k1, k2⟩ <;>
  (go_enter Tryd.func20, Tryd.ntmps20
   go_wp2_with fail
   have hbl : Below w.heap.size w (w.alloc (.cells #[.string ps] 9)) := below_alloc (Below.refl _ _) _
   have HPB := Aside0.mk (Blk.new w 9 #[.string ps])
   refine (HBo.out _).mono ?_
   rintro e w1 ⟨hb1, h1⟩
   rw [if_pos HE.out] at h1
   obtain ⟨g, gb, cb, rfl, hbr, _, _, _⟩ := h1
   rw [Int.toNat_natCast] at hbr
   have HB1 := Aside0.mk (below_then hbl hbl.size hb1)
   have HP1 := Aside0.mk (HPB.out.later hb1)
   have HBr := Aside0.mk hbr
   have hmm1 := hbr.n1
   have hmm11 := hbr.n11
   clear hbl hb1 hbr HPB HBo
   obtain ⟨gp, hgp⟩ : ∃ gp, w.heap.size = gp := ⟨_, rfl⟩
   rw [hgp] at HP1 ⊢
   have cp : w1.cell? ⟨gp, 0, none⟩ = some (.string ps) := HP1.out.cell 0
   have HF := Aside0.mk (far_any g m gb cb (bsOf s) p _ _ _ w1 (HS.out.later HB1.out) HBr.out (cost_needs HL.out HP0.out HP1.out) (cost0_le p))
   go_wp2_with fail
   refine HF.out.mono ?_
   rintro e w2 ⟨out, v, rfl, hR2, hF2, hb2⟩
   have HD := Aside0.mk hF2
   have HB2 := Aside0.mk (below_then HB1.out HB1.out.size hb2)
   have HP2 := Aside0.mk (HP1.out.later hb2)
   have HBr2 := Aside0.mk (HBr.out.later hb2)
   rw [HM.out] at hR2
   have HR2 := Aside0.mk hR2
   clear HF hR2 hF2 hb2 HP1 cp
   obtain ⟨go, co, rfl, hgo, hgl, fc, hfc⟩ := Kd.R_form HR2.out (by rw [rowO_len]; omega)
   rw [rowO_len] at HR2 ⊢
   have HFB := Aside0.mk (show Blk w2 go 3 fc from hfc)
   have HFC : Aside0 (∀ x, x < M → fc[x]? = some (.int .i64 (oi (out x)))) := ⟨fun x hx => by
     obtain ⟨hx1, _⟩ := Kd.R_celln 0 HR2.out (x : Int) (Int.natCast_nonneg x) (Int.ofNat_lt.2 hx)
     rw [Int.toNat_natCast, HFB.out.cell x] at hx1
     rw [← rowO_get out hx]; exact hx1⟩
   clear hgl hfc hgo HR2
   go_wp2_with fail
   go_loopw [11, 40] (fun v11 v40 wr => ∃ (i : Nat) (b : Option Nat), i ≤ M ∧ v40 = .int .i64 (i : Int) ∧ v11 = .int .i64 (oi b) ∧ Aside0 (LeastI m p out i b) ∧ Aside0 (Below w2.heap.size w2 wr)) (fun _ v _ => M - (intOf v).toNat)
   case atStart => exact ⟨0, none, Nat.zero_le _, rfl, rfl, ⟨LeastI.start m p out⟩, ⟨Below.refl _ _⟩⟩
   case round =>
     obtain ⟨i, b, hi, rfl, rfl, HSc, HBq⟩ := hrel
     have cp : wr.cell? ⟨gp, 0, none⟩ = some (.string ps) := (HP2.out.later HBq.out).cell 0
     by_cases him : i < M
     · have ci : wr.cell? ⟨go, i, none⟩ = some (.int .i64 (oi (out i))) := by rw [(HFB.out.later HBq.out).cell i, HFC.out i him]
       have i0 : (0 : Int) ≤ (i : Int) := Int.natCast_nonneg i
       have i1 : (i : Int) < (M : Int) := Int.ofNat_lt.2 him
       have HE2 := Aside0.mk (ends_any g m i _ p wr hmm1 hmm11 (by rw [HM.out]; exact him) (HBr2.out.later HBq.out).hd)
       obtain ⟨lb, hlb⟩ : ∃ lb : Bool, decide (endK m i p = m - 1) = lb := ⟨_, rfl⟩
       rw [hlb] at HE2
       clear hlb
       go_wp2_with fail
       refine HE2.out.mono ?_
       rintro e w3 ⟨rfl, hb3⟩
       have HB3 := Aside0.mk (below_then HBq.out HBq.out.size hb3)
       clear hb3 HE2 ci cp
       by_cases hbe : beP m p i
       · have hd1 : decide (endK m i p = 0) = true := decide_eq_true hbe
         rw [hd1]
         clear hd1
         cases ho : out i with
         | none =>
           have HS2 := Aside0.mk (HSc.out.skip (fun _ e he => by rw [ho] at he; cases he))
           have e : oi none = -1 := rfl
           rw [e]
           clear ho
           generalize hat : oi b = va at *
           have HAT := Aside0.mk hat
           clear hat
           go_wp2_with fail
           go_roundw
           case rel => exact ⟨i + 1, b, him, by go_num, by rw [HAT.out], HS2, HB3⟩
           case measure => simp [intOf]; omega
         | some d =>
           have e : oi (some d) = (d : Int) := rfl
           rw [e]
           cases b with
           | none =>
             have HS2 := Aside0.mk (HSc.out.take hbe ho (fun e h => by cases h))
             have e : oi none = -1 := rfl
             rw [e]
             clear ho hbe
             go_wp2_with fail
             go_roundw
             case rel => exact ⟨i + 1, some d, him, by go_num, rfl, HS2, HB3⟩
             case measure => simp [intOf]; omega
           | some da =>
             have e : oi (some da) = (da : Int) := rfl
             rw [e]
             by_cases hlt : d < da
             · have HS2 := Aside0.mk (HSc.out.take hbe ho (fun e h => by cases h; exact hlt))
               have t1 : decide (d < da) = true := decide_eq_true hlt
               have t2 : decide ((d : Int) < (da : Int)) = true := decide_eq_true (Int.ofNat_lt.2 hlt)
               clear ho hbe hlt
               go_wp2_with fail
               go_roundw
               case rel => exact ⟨i + 1, some d, him, by go_num, rfl, HS2, HB3⟩
               case measure => simp [intOf]; omega
             · have HS2 := Aside0.mk (HSc.out.skip (fun _ e he => by rw [ho] at he; cases he; exact ⟨da, rfl, by omega⟩))
               have t1 : decide (d < da) = false := decide_eq_false hlt
               have t2 : decide ((d : Int) < (da : Int)) = false := decide_eq_false (fun h => hlt (Int.ofNat_lt.1 h))
               clear ho hbe hlt
               go_wp2_with fail
               go_roundw
               case rel => exact ⟨i + 1, some da, him, by go_num, rfl, HS2, HB3⟩
               case measure => simp [intOf]; omega
       · have hd1 : decide (endK m i p = 0) = false := decide_eq_false hbe
         rw [hd1]
         clear hd1
         have HS2 := Aside0.mk (HSc.out.skip (fun h => absurd h hbe))
         generalize hat : oi b = va at *
         have HAT := Aside0.mk hat
         clear hat hbe
         generalize oi (out i) = vo at *
         go_wp2_with fail
         go_roundw
         case rel => exact ⟨i + 1, b, him, by go_num, by rw [HAT.out], HS2, HB3⟩
         case measure => simp [intOf]; omega
     · obtain rfl : i = M := by omega
       have hfin := needs_fin HD.out (show LeastI m p out (m * m) b by rw [HM.out]; exact HSc.out)
       have HBw := Aside0.mk (below_then HB2.out HB2.out.size HBq.out)
       cases b with
       | none =>
         have hr : needsR m s ps = (0, 10) := by rw [HRR.out, hfin]
         have HR := Aside0.mk hr
         have e : oi none = -1 := rfl
         rw [e]
         clear hr hfin cp
         go_wp2_with fail
         go_ret2
         exact ⟨HBw.out, by rw [HR.out]; rfl⟩
       | some d =>
         have hr : needsR m s ps = (((d : Nat) : Int), (0 : Int)) := by rw [HRR.out, hfin]
         have HR := Aside0.mk hr
         have e : oi (some d) = (d : Int) := rfl
         rw [e]
         have z0 : ¬ (d : Int) < 0 := Int.not_lt.2 (Int.natCast_nonneg d)
         clear hr hfin cp
         go_wp2_with fail
         go_ret2
         exact ⟨HBw.out, by rw [HR.out]; rfl⟩)
theorem needs_bad (n : Int) (s ps : ByteArray) (hE : boE n s xodB ≠ 0) (w : World) (hs : s.size ≤ 9223372036854775807) :
    Calls Tryd.prog 20 #[.int .i64 n, .string s, .string ps] w (NeedsPost n s ps w) := by
  have HBo := Aside0.mk (fun w => boarded_any n s xodB w hs (by decide) (by decide))
  have hR : needsR n s ps = (0, boE n s xodB) := by unfold needsR; rw [if_neg hE]
  have hne : (boE n s xodB == 0) = false := beq_eq_false_iff_ne.2 hE
  have hne' : (boE n s xodB != 0) = true := bne_iff_ne.2 hE
  have HE := Aside0.mk hE
  have HR := Aside0.mk hR
  unfold xodB at HBo HE HR hne hne'
  clear hE hR
  go_enter Tryd.func20, Tryd.ntmps20
  go_wp2_with fail
  have hbl : Below w.heap.size w (w.alloc (.cells #[.string ps] 9)) := below_alloc (Below.refl _ _) _
  refine (HBo.out _).mono ?_
  rintro e w1 ⟨hb1, h1⟩
  rw [if_neg HE.out] at h1
  subst h1
  have HB1 := Aside0.mk (below_then hbl hbl.size hb1)
  clear hb1 hbl
  go_wp2_with fail
  go_ret2
  exact ⟨HB1.out, by rw [HR.out]; rfl⟩
theorem needs_not (n : Int) (s ps : ByteArray) (hp : plB ps = false) (k1 : (ps.toList == [120]) = false) (k2 : (ps.toList == [111]) = false) (hE : boE n s xodB = 0) (w : World) (hs : s.size ≤ 9223372036854775807) :
    Calls Tryd.prog 20 #[.int .i64 n, .string s, .string ps] w (NeedsPost n s ps w) := by
  have HBo := Aside0.mk (fun w => boarded_any n s xodB w hs (by decide) (by decide))
  have hR : needsR n s ps = (0, 2) := by unfold needsR; rw [if_pos hE, hp]; rfl
  have HE := Aside0.mk hE
  have HR := Aside0.mk hR
  unfold xodB at HBo HE
  clear hE hR hp
  go_enter Tryd.func20, Tryd.ntmps20
  go_wp2_with fail
  have hbl : Below w.heap.size w (w.alloc (.cells #[.string ps] 9)) := below_alloc (Below.refl _ _) _
  have HPB := Aside0.mk (Blk.new w 9 #[.string ps])
  refine (HBo.out _).mono ?_
  rintro e w1 ⟨hb1, h1⟩
  rw [if_pos HE.out] at h1
  obtain ⟨g, gb, cb, rfl, _, _, _, _⟩ := h1
  have HB1 := Aside0.mk (below_then hbl hbl.size hb1)
  have cp : w1.cell? ⟨w.heap.size, 0, none⟩ = some (.string ps) := (HPB.out.later hb1).cell 0
  clear hb1 hbl HPB
  obtain ⟨gp, hgp⟩ : ∃ gp, w.heap.size = gp := ⟨_, rfl⟩
  rw [hgp] at cp ⊢
  go_wp2_with fail
  go_ret2
  exact ⟨HB1.out, by rw [HR.out]; rfl⟩
theorem needs_call (n : Int) (s ps : ByteArray) (w : World) (hst : Steps w) (hs : s.size ≤ 9223372036854775807) :
    Calls Tryd.prog 20 #[.int .i64 n, .string s, .string ps] w (NeedsPost n s ps w) := by
  by_cases hE : boE n s xodB = 0
  · rcases plB_cases ps with ⟨h1, h2⟩ | ⟨h1, h2, h3⟩
    · rcases h2 with h2 | h2
      · exact needs_good n s ps 120 (.inl ⟨h2, rfl⟩) hE w hst hs
      · exact needs_good n s ps 111 (.inr ⟨h2, rfl⟩) hE w hst hs
    · exact needs_not n s ps h1 h2 h3 hE w hs
  · exact needs_bad n s ps hE w hs
end Go.Proofs.YtlmgkmmdaecpdaaDoor.Im

namespace Go.Proofs.YtlmgkmmdaecpdaaDoor.Im
open Go.RowKit Go.Proofs.YtlmgkmmdaecpdaaDoorW.PrintWords Go.Proofs.YtlmgkmmdaecpdaaDoorW.PrintLast Go.Proofs.YtlmgkmmdaecpdaaDoorW.PrintMore Go.Proofs.YtlmgkmmdaecpdaaDoor.Mi
set_option linter.unusedVariables false
def Gives {α : Type} (f : Nat → Option α) (r : α) : Prop := ∃ k0, ∀ k, k0 ≤ k → f k = some r
theorem Gives.now {α : Type} {g : Nat → Option α} {r : α} (h : ∀ k, g (k + 1) = some r) : Gives g r :=
  ⟨1, fun k hk => by obtain ⟨m, rfl⟩ : ∃ m, k = m + 1 := ⟨k - 1, by omega⟩; exact h m⟩
theorem Gives.all {α : Type} {g : Nat → Option α} {r : α} (h : ∀ k, g k = some r) : Gives g r := ⟨0, fun k _ => h k⟩
theorem Gives.step {α β : Type} {f : Nat → Option α} {r : α} {g : Nat → Option β} {s : β} (h : Gives f r) (hs : ∀ k, f k = some r → g (k + 1) = some s) : Gives g s := by
  obtain ⟨k0, h⟩ := h
  exact ⟨k0 + 1, fun k hk => by obtain ⟨m, rfl⟩ : ∃ m, k = m + 1 := ⟨k - 1, by omega⟩; exact hs m (h m (by omega))⟩
theorem Gives.map {α β : Type} {f : Nat → Option α} {r : α} {g : Nat → Option β} {s : β} (h : Gives f r) (hs : ∀ k, f k = some r → g k = some s) : Gives g s := by
  obtain ⟨k0, h⟩ := h
  exact ⟨k0, fun k hk => hs k (h k hk)⟩
theorem rd_get {xs : List Int} {i : Nat} (h : i < xs.length) : rd xs (i : Int) = xs[i] := by
  show xs.getD ((i : Nat) : Int).toNat 0 = _
  rw [Int.toNat_natCast, List.getD, List.getElem?_eq_getElem h]
  rfl
theorem same_l0 (xs ys : List Int) (hx : xs.length < 1000000) (he : xs.length = ys.length) : ∀ (d i : Nat), i + d = xs.length → Gives (fun k => pomadelaw04_same.l0 k xs ys i) (decide (xs.drop i = ys.drop i))
  | 0, i, h => Gives.now fun k => by
    simp only [pomadelaw04_same.l0]
    rw [if_neg (by omega), List.drop_of_length_le (by omega), List.drop_of_length_le (by omega)]
    rfl
  | d + 1, i, h => by
    have e1 : xs.drop i = xs[i]'(by omega) :: xs.drop (i + 1) := (List.drop_eq_getElem_cons (by omega))
    have e2 : ys.drop i = ys[i]'(by omega) :: ys.drop (i + 1) := (List.drop_eq_getElem_cons (by omega))
    by_cases hq : xs[i]'(by omega) = ys[i]'(by omega)
    · have e3 : xs.drop (i + 1) = ys.drop (i + 1) ↔ xs.drop i = ys.drop i := ⟨fun h => by rw [e1, e2, hq, h], fun h => by rw [e1, e2] at h; exact (List.cons.inj h).2⟩
      exact (same_l0 xs ys hx he d (i + 1) (by omega)).step fun k hk => by
        simp only [pomadelaw04_same.l0]
        rw [if_pos (by omega), if_pos (by omega), if_pos (by omega), rd_get (by omega), rd_get (by omega), if_pos hq, wr_succ i (by omega), hk, decide_eq_decide.2 e3]
    · have e3 : ¬ xs.drop i = ys.drop i := fun h => by rw [e1, e2] at h; exact hq (List.cons.inj h).1
      exact Gives.now fun k => by
        simp only [pomadelaw04_same.l0]
        rw [if_pos (by omega), if_pos (by omega), if_pos (by omega), rd_get (by omega), rd_get (by omega), if_neg hq, decide_eq_false e3]
theorem same_g (xs ys : List Int) (hx : xs.length < 1000000) : Gives (fun k => pomadelaw04_same.f k xs ys) (decide (xs = ys)) := by
  by_cases he : xs.length = ys.length
  · exact (same_l0 xs ys hx he xs.length 0 (by omega)).map fun k hk => by
      simp only [pomadelaw04_same.f]
      rw [if_pos (by omega)]; exact hk
  · exact Gives.all fun k => by
      simp only [pomadelaw04_same.f]
      rw [if_neg (by omega), decide_eq_false (fun e => he (by rw [e]))]
theorem same_any (xs ys : List Int) (A B : Option Addr) (c d : Nat) (w : World) (hx : xs.length < 1000000) (hA : Kd.C (Kd.int .i64) w A xs.length xs) (hc : xs.length ≤ c) (hB : Kd.C (Kd.int .i64) w B ys.length ys) (hd : ys.length ≤ d) :
    Calls Tryd.prog 33 #[.slice A xs.length c, .slice B ys.length d] w fun e w' => e = .returned (.bool (decide (xs = ys))) ∧ Below w.heap.size w w' := by
  obtain ⟨k0, hk0⟩ := same_g xs ys hx
  exact (pomadelaw04_same.calls k0 A c xs B d ys _ w hA hc hB hd (hk0 k0 (Nat.le_refl _))).mono fun e w' ⟨h1, h2⟩ => ⟨h1, h2.below⟩
theorem C_i2 (w : World) (i j : Int) : Kd.C (Kd.int .i64) (w.alloc (.cells #[.int .i64 i, .int .i64 j] 3)) (some ⟨w.heap.size, 0, none⟩) 2 [i, j] := by
  have h1 : (w.alloc (.cells #[.int .i64 i, .int .i64 j] 3)).ownsRow w.heap.size 3 1 (.slice (some ⟨w.heap.size, 0, none⟩) 2 2) [i, j].length (encs (Value.int .i64) [i, j]) :=
    ⟨rfl, .inr ⟨w.heap.size, 2, #[.int .i64 i, .int .i64 j], rfl, Nat.le_refl _, Blk.new w 3 _, by simp, by decide, rfl, rfl⟩⟩
  have h2 : Kd.R (Kd.int .i64) 3 (w.alloc (.cells #[.int .i64 i, .int .i64 j] 3)) w.heap.size (fun _ => True) (.slice (some ⟨w.heap.size, 0, none⟩) 2 2) [i, j] := Kd.R_of_own h1 (fun _ _ => trivial)
  obtain ⟨A, c, e, _, hC⟩ := Kd.R_reads h2
  injection e with e1
  rw [← e1] at hC
  exact hC
theorem C_i3 (w : World) (i j l : Int) : Kd.C (Kd.int .i64) (w.alloc (.cells #[.int .i64 i, .int .i64 j, .int .i64 l] 3)) (some ⟨w.heap.size, 0, none⟩) 3 [i, j, l] := by
  have h1 : (w.alloc (.cells #[.int .i64 i, .int .i64 j, .int .i64 l] 3)).ownsRow w.heap.size 3 1 (.slice (some ⟨w.heap.size, 0, none⟩) 3 3) [i, j, l].length (encs (Value.int .i64) [i, j, l]) :=
    ⟨rfl, .inr ⟨w.heap.size, 3, #[.int .i64 i, .int .i64 j, .int .i64 l], rfl, Nat.le_refl _, Blk.new w 3 _, by simp, by decide, rfl, rfl⟩⟩
  have h2 : Kd.R (Kd.int .i64) 3 (w.alloc (.cells #[.int .i64 i, .int .i64 j, .int .i64 l] 3)) w.heap.size (fun _ => True) (.slice (some ⟨w.heap.size, 0, none⟩) 3 3) [i, j, l] := Kd.R_of_own h1 (fun _ _ => trivial)
  obtain ⟨A, c, e, _, hC⟩ := Kd.R_reads h2
  injection e with e1
  rw [← e1] at hC
  exact hC
end Go.Proofs.YtlmgkmmdaecpdaaDoor.Im

namespace Go.Proofs.YtlmgkmmdaecpdaaDoor.Im
open Go.RowKit Go.Proofs.YtlmgkmmdaecpdaaDoorW.PrintWords Go.Proofs.YtlmgkmmdaecpdaaDoorW.PrintLast Go.Proofs.YtlmgkmmdaecpdaaDoorW.PrintMore Go.Proofs.YtlmgkmmdaecpdaaDoor.Mi
set_option linter.unusedVariables false
theorem bt_bs (s : ByteArray) (i : Nat) : bt s i = (bsOf s).getD i 0 := by
  unfold bt bsOf
  rw [List.getD, List.getElem?_map]
  by_cases h : i < s.size
  · have h' : ((i : Nat) : Int).toNat < s.size := by rw [Int.toNat_natCast]; exact h
    rw [dif_pos h']
    have e : s.data.toList[i]? = some (s[i]'h) := by
      rw [Array.getElem?_toList, Array.getElem?_eq_getElem h]
      rfl
    rw [e]
    simp
  · rw [dif_neg (by rw [Int.toNat_natCast]; exact h), List.getElem?_eq_none (by rw [Array.length_toList]; exact Nat.not_lt.1 h)]
    rfl
def csB (b : Bool) : ByteArray := if b then xodB else xoB
def okFrom (s : ByteArray) (b : Bool) (i : Nat) : Bool := (s.data.toList.drop i).all ((csB b).data.toList.contains ·)
theorem okFrom_end {s : ByteArray} {b : Bool} {i : Nat} (h : s.size ≤ i) : okFrom s b i = true := by
  unfold okFrom
  rw [List.drop_of_length_le (by rw [Array.length_toList]; exact h)]
  rfl
theorem okFrom_step {s : ByteArray} {b : Bool} {i : Nat} (h : i < s.size) : okFrom s b i = ((decide (bt s i = 120) || decide (bt s i = 111) || (b && decide (bt s i = 46))) && okFrom s b (i + 1)) := by
  have hl : i < s.data.toList.length := by rw [Array.length_toList]; exact h
  have e : s.data.toList.drop i = s.data.toList[i]'hl :: s.data.toList.drop (i + 1) := List.drop_eq_getElem_cons hl
  have e2 : bt s i = ((s.data.toList[i]'hl).toNat : Int) := by
    rw [bt_bs]
    unfold bsOf
    rw [List.getD, List.getElem?_map, List.getElem?_eq_getElem hl]
    rfl
  unfold okFrom
  rw [e, List.all_cons, e2]
  congr 1
  have k : ∀ c : UInt8, ((c.toNat : Int) = 120 ↔ c = 120) ∧ ((c.toNat : Int) = 111 ↔ c = 111) ∧ ((c.toNat : Int) = 46 ↔ c = 46) := fun c => ⟨⟨fun h => UInt8.toNat_inj.1 (by have h2 : (c.toNat : Int) = ((120 : UInt8).toNat : Int) := h; omega), fun h => by rw [h]; rfl⟩, ⟨fun h => UInt8.toNat_inj.1 (by have h2 : (c.toNat : Int) = ((111 : UInt8).toNat : Int) := h; omega), fun h => by rw [h]; rfl⟩, ⟨fun h => UInt8.toNat_inj.1 (by have h2 : (c.toNat : Int) = ((46 : UInt8).toNat : Int) := h; omega), fun h => by rw [h]; rfl⟩⟩
  generalize s.data.toList[i]'hl = c
  obtain ⟨k1, k2, k3⟩ := k c
  have d1 : decide ((c.toNat : Int) = 120) = decide (c = 120) := decide_eq_decide.2 k1
  have d2 : decide ((c.toNat : Int) = 111) = decide (c = 111) := decide_eq_decide.2 k2
  have d3 : decide ((c.toNat : Int) = 46) = decide (c = 46) := decide_eq_decide.2 k3
  rw [d1, d2, d3]
  cases b
  · show [120, 111].contains c = _
    simp
  · show [120, 111, 46].contains c = _
    simp [Bool.or_assoc]
theorem board_l0 (s : ByteArray) (b : Bool) (hs : s.size ≤ 1000000) : ∀ (d i : Nat), i + d = s.size → Gives (fun k => pomaderef04_Board.l0 k s b i) (if okFrom s b i then 0 else 5)
  | 0, i, h => Gives.now fun k => by
    simp only [pomaderef04_Board.l0]
    rw [if_neg (by omega), okFrom_end (by omega), if_pos rfl]
  | d + 1, i, h => by
    have e := okFrom_step (s := s) (b := b) (i := i) (by omega)
    have hrec := board_l0 s b hs d (i + 1) (by omega)
    have w1 := wr_succ i (by omega)
    by_cases h1 : bt s i = 120
    · refine hrec.step fun k hk => ?_
      simp only [pomaderef04_Board.l0]
      rw [if_pos (by omega), if_pos (by omega), if_pos h1, w1, hk, e, decide_eq_true h1]
      simp
    · by_cases h2 : bt s i = 111
      · refine hrec.step fun k hk => ?_
        simp only [pomaderef04_Board.l0]
        rw [if_pos (by omega), if_pos (by omega), if_neg h1, if_pos h2, w1, hk, e, decide_eq_true h2]
        simp
      · by_cases h3 : bt s i = 46
        · cases b
          · refine Gives.now fun k => ?_
            simp only [pomaderef04_Board.l0]
            rw [if_pos (by omega), if_pos (by omega), if_neg h1, if_neg h2, if_pos h3, if_neg (by decide), e, decide_eq_false h1, decide_eq_false h2]
            simp
          · refine hrec.step fun k hk => ?_
            simp only [pomaderef04_Board.l0]
            rw [if_pos (by omega), if_pos (by omega), if_neg h1, if_neg h2, if_pos h3, if_pos trivial, w1, hk, e, decide_eq_true h3]
            simp
        · refine Gives.now fun k => ?_
          simp only [pomaderef04_Board.l0]
          rw [if_pos (by omega), if_pos (by omega), if_neg h1, if_neg h2, if_neg h3, e, decide_eq_false h1, decide_eq_false h2, decide_eq_false h3]
          simp
theorem boE_of (n : Int) (s : ByteArray) (b : Bool) : boE n s (csB b) = if n < 1 ∨ 11 < n then 2 else if (s.size : Int) = n * n ∧ okFrom s b 0 = true then 0 else 5 := rfl
theorem board_g (n : Int) (s : ByteArray) (b : Bool) (hs : s.size ≤ 1000000) : Gives (fun k => pomaderef04_Board.f k n s b) (boE n s (csB b)) := by
  rw [boE_of]
  by_cases h1 : n < 1
  · rw [if_pos (.inl h1)]
    refine (Gives.now fun k => ?_ : Gives (fun k => pomaderef04_Board.f k n s b) 2)
    simp only [pomaderef04_Board.f, pomaderef04_Board.j0]
    rw [if_pos h1, if_pos trivial]
  · by_cases h2 : 11 < n
    · rw [if_pos (.inr h2)]
      refine (Gives.now fun k => ?_ : Gives (fun k => pomaderef04_Board.f k n s b) 2)
      simp only [pomaderef04_Board.f, pomaderef04_Board.j0]
      rw [if_neg h1, decide_eq_true (show n > 11 from h2), if_pos rfl]
    · rw [if_neg (by omega)]
      obtain ⟨m, rfl⟩ : ∃ m : Nat, n = m := ⟨n.toNat, by omega⟩
      have hm : m * m ≤ 121 := Nat.mul_le_mul (show m ≤ 11 by omega) (show m ≤ 11 by omega)
      have hw : wrap64 ((m : Int) * m) = ((m * m : Nat) : Int) := by rw [← Int.natCast_mul]; unfold wrap64; omega
      by_cases h3 : (s.size : Int) = (m : Int) * m
      · have hb := board_l0 s b hs s.size 0 (by omega)
        have e : (if (s.size : Int) = (m : Int) * m ∧ okFrom s b 0 = true then (0 : Int) else 5) = if okFrom s b 0 then 0 else 5 := by
          cases okFrom s b 0
          · rw [if_neg (by simp), if_neg (by simp)]
          · rw [if_pos ⟨h3, rfl⟩, if_pos rfl]
        rw [e]
        refine hb.step fun k hk => ?_
        simp only [pomaderef04_Board.f, pomaderef04_Board.j0]
        rw [if_neg h1, decide_eq_false (by omega), if_neg (by decide), hw, if_pos (by rw [h3, Int.natCast_mul])]
        exact hk
      · rw [if_neg (fun h => h3 h.1)]
        refine (Gives.now fun k => ?_ : Gives (fun k => pomaderef04_Board.f k m s b) 5)
        simp only [pomaderef04_Board.f, pomaderef04_Board.j0]
        rw [if_neg h1, decide_eq_false (by omega), if_neg (by decide), hw, if_neg (by rw [Int.natCast_mul]; exact h3)]
theorem board_any (n : Int) (s : ByteArray) (b : Bool) (w : World) (hs : s.size ≤ 1000000) :
    Calls Tryd.prog 22 #[.int .i64 n, .string s, .bool b] w fun e w' => e = .returned (.int .i64 (boE n s (csB b))) ∧ Below w.heap.size w w' := by
  obtain ⟨k0, hk0⟩ := board_g n s b hs
  exact (pomaderef04_Board.calls k0 n s b _ w (hk0 k0 (Nat.le_refl _))).mono fun e w' ⟨h1, h2⟩ => ⟨h1, h2.below⟩
theorem many_l0 (s : ByteArray) (b : UInt8) (hs : s.size ≤ 1000000) : ∀ (d i acc : Nat), i + d = s.size → acc ≤ i → Gives (fun k => pomaderef04_Many.l0 k s (b.toNat : Int) acc i) ((acc + (s.data.toList.drop i).count b : Nat) : Int)
  | 0, i, acc, h, ha => Gives.now fun k => by
    simp only [pomaderef04_Many.l0]
    rw [if_neg (by omega), List.drop_of_length_le (by rw [Array.length_toList]; show s.size ≤ i; omega)]
    simp
  | d + 1, i, acc, h, ha => by
    have hl : i < s.data.toList.length := by rw [Array.length_toList]; show i < s.size; omega
    have e : s.data.toList.drop i = s.data.toList[i]'hl :: s.data.toList.drop (i + 1) := List.drop_eq_getElem_cons hl
    have e2 : bt s i = ((s.data.toList[i]'hl).toNat : Int) := by
      rw [bt_bs]
      unfold bsOf
      rw [List.getD, List.getElem?_map, List.getElem?_eq_getElem hl]
      rfl
    by_cases hq : s.data.toList[i]'hl = b
    · refine (many_l0 s b hs d (i + 1) (acc + 1) (by omega) (by omega)).step fun k hk => ?_
      simp only [pomaderef04_Many.l0]
      rw [if_pos (by omega), if_pos (by omega), e2, hq, if_pos rfl, wr_succ i (by omega), wr_succ acc (by omega), hk, e, hq, List.count_cons_self]
      exact congrArg some (by omega)
    · refine (many_l0 s b hs d (i + 1) acc (by omega) (by omega)).step fun k hk => ?_
      simp only [pomaderef04_Many.l0]
      rw [if_pos (by omega), if_pos (by omega), e2, if_neg (fun h => hq (UInt8.toNat_inj.1 (by omega))), wr_succ i (by omega), hk, e, List.count_cons_of_ne hq]
theorem many_any (s : ByteArray) (b : UInt8) (w : World) (hs : s.size ≤ 1000000) :
    Calls Tryd.prog 16 #[.string s, .int .u8 (b.toNat : Int)] w fun e w' => e = .returned (.int .i64 (s.data.toList.count b : Nat)) ∧ Below w.heap.size w w' := by
  obtain ⟨k0, hk0⟩ := (many_l0 s b hs s.size 0 0 (by omega) (Nat.le_refl _)).map (g := fun k => pomaderef04_Many.f k s (b.toNat : Int)) (s := ((s.data.toList.count b : Nat) : Int)) fun k hk => by
    simp only [pomaderef04_Many.f]
    have hk' : pomaderef04_Many.l0 k s (b.toNat : Int) 0 0 = _ := hk
    rw [hk', Nat.zero_add]
    rfl
  exact (pomaderef04_Many.calls k0 s _ _ w (hk0 k0 (Nat.le_refl _))).mono fun e w' ⟨h1, h2⟩ => ⟨h1, h2.below⟩
theorem boE_iff {n : Int} {s : ByteArray} {b : Bool} : boE n s (csB b) = 0 ↔ 1 ≤ n ∧ n ≤ 11 ∧ (s.size : Int) = n * n ∧ ∀ a, a < s.size → (bsOf s).getD a 0 = 120 ∨ (bsOf s).getD a 0 = 111 ∨ b = true ∧ (bsOf s).getD a 0 = 46 := by
  have key : ∀ d i, i + d = s.size → (okFrom s b i = true ↔ ∀ a, i ≤ a → a < s.size → (bsOf s).getD a 0 = 120 ∨ (bsOf s).getD a 0 = 111 ∨ b = true ∧ (bsOf s).getD a 0 = 46) := by
    intro d
    induction d with
    | zero => intro i h; exact ⟨fun _ a h1 h2 => by omega, fun _ => okFrom_end (by omega)⟩
    | succ d ih =>
      intro i h
      rw [okFrom_step (by omega), Bool.and_eq_true, ih (i + 1) (by omega), bt_bs]
      constructor
      · rintro ⟨h1, h2⟩ a h3 h4
        rcases Nat.lt_or_ge i a with h5 | h5
        · exact h2 a h5 h4
        · obtain rfl : a = i := by omega
          simp only [Bool.or_eq_true, Bool.and_eq_true, decide_eq_true_eq] at h1
          rcases h1 with (h1 | h1) | h1
          · exact .inl h1
          · exact .inr (.inl h1)
          · exact .inr (.inr h1)
      · intro h1
        refine ⟨?_, fun a h3 h4 => h1 a (by omega) h4⟩
        simp only [Bool.or_eq_true, Bool.and_eq_true, decide_eq_true_eq]
        rcases h1 i (Nat.le_refl _) (by omega) with h2 | h2 | h2
        · exact .inl (.inl h2)
        · exact .inl (.inr h2)
        · exact .inr h2
  have k0 := key s.size 0 (by omega)
  rw [boE_of]
  constructor
  · intro h
    split at h
    · cases h
    · split at h
      · rename_i h1 h2
        exact ⟨by omega, by omega, h2.1, fun a ha => k0.1 h2.2 a (Nat.zero_le _) ha⟩
      · cases h
  · rintro ⟨h1, h2, h3, h4⟩
    rw [if_neg (by omega), if_pos ⟨h3, k0.2 fun a _ ha => h4 a ha⟩]
end Go.Proofs.YtlmgkmmdaecpdaaDoor.Im

namespace Go.Proofs.YtlmgkmmdaecpdaaDoor.Im
open Go.RowKit Go.Proofs.YtlmgkmmdaecpdaaDoorW.PrintWords Go.Proofs.YtlmgkmmdaecpdaaDoorW.PrintLast Go.Proofs.YtlmgkmmdaecpdaaDoorW.PrintMore Go.Proofs.YtlmgkmmdaecpdaaDoor.Mi
set_option linter.unusedVariables false
def swI (c : Int) : Int := if c = 120 then 111 else if c = 111 then 120 else c
theorem swI_swI (c : Int) : swI (swI c) = c := by
  unfold swI
  by_cases h : c = 120
  · subst h; rfl
  · by_cases k : c = 111
    · subst k; rfl
    · rw [if_neg h, if_neg k, if_neg h, if_neg k]
def Flip (n : Nat) (bs bt : List Int) : Prop := ∀ a, a < n * n → bt.getD (flp n a) 0 = swI (bs.getD a 0)
theorem Flip.symm {n : Nat} {bs bt : List Int} (hn : 0 < n) (h : Flip n bs bt) : Flip n bt bs := fun a ha => by
  have := h (flp n a) (flp_lt hn ha)
  rw [flp_flp hn ha] at this
  rw [this, swI_swI]
end Go.Proofs.YtlmgkmmdaecpdaaDoor.Im

namespace Go.Proofs.YtlmgkmmdaecpdaaDoor.Im
open Go.RowKit Go.Proofs.YtlmgkmmdaecpdaaDoorW.PrintWords Go.Proofs.YtlmgkmmdaecpdaaDoorW.PrintLast Go.Proofs.YtlmgkmmdaecpdaaDoorW.PrintMore Go.Proofs.YtlmgkmmdaecpdaaDoor.Mi
set_option linter.unusedVariables false
def rowV (xs : List Int) : Array Value := (xs.map fun x => Value.int .i64 x).toArray
structure Row (w : World) (b m : Nat) (xs : List Int) : Prop where
  blk : Blk w b 3 (rowV xs)
  len : xs.length = m
theorem rowV_get {xs : List Int} {i : Nat} (h : i < xs.length) : (rowV xs)[i]? = some (.int .i64 (rd xs (i : Int))) := by
  unfold rowV
  rw [rd_get h, List.getElem?_toArray, List.getElem?_map, List.getElem?_eq_getElem h]
  rfl
theorem Row.get {w : World} {b m : Nat} {xs : List Int} (h : Row w b m xs) {i : Nat} (hi : i < m) : w.cell? ⟨b, i, none⟩ = some (.int .i64 (rd xs (i : Int))) := by
  rw [h.blk.cell i, rowV_get (by rw [h.len]; exact hi)]
theorem Row.set {w : World} {b m : Nat} {xs : List Int} (h : Row w b m xs) (i : Nat) (v : Int) : Row (w.setCell ⟨b, i, none⟩ (.int .i64 v)) b m (xs.set i v) := by
  refine ⟨?_, by rw [List.length_set]; exact h.len⟩
  have e : (rowV xs).setIfInBounds i (.int .i64 v) = rowV (xs.set i v) := by
    unfold rowV
    rw [List.setIfInBounds_toArray, List.map_set]
  rw [← e]
  exact h.blk.set_ i _
theorem Row.far {w : World} {b m : Nat} {xs : List Int} (h : Row w b m xs) {p : Addr} (hp : b ≠ p.block) (u : Value) : Row (w.setCell p u) b m xs := ⟨h.blk.far hp u, h.len⟩
theorem Row.later {w w' : World} {b m : Nat} {xs : List Int} (h : Row w b m xs) (hb : Below w.heap.size w w') : Row w' b m xs := ⟨h.blk.later hb, h.len⟩
theorem Row.drewN {w : World} {b m : Nat} {xs : List Int} (h : Row w b m xs) (q : Nat) : Row (w.drewN q) b m xs := ⟨h.blk.drewN q, h.len⟩
theorem Row.drew {w : World} {b m : Nat} {xs : List Int} (h : Row w b m xs) : Row w.drew b m xs := ⟨h.blk.drew, h.len⟩
theorem row_make (m : Nat) (hm : m ≤ 1000) (W : World) : (Instr.makeSlice 34 (.int .i64 (m : Int)) (.int .i64 (m : Int))).run Tryd.prog W = .ok (.slice (some ⟨W.heap.size, 0, none⟩) m m) (W.alloc (.cells (rowV (List.replicate m 0)) 3)) := by
  rw [print_make_of 34 3 (.int .i64 0) 8 Tryd.underlying34 info3 rfl (by decide) m (by omega) W]
  congr 3
  apply Array.ext_getElem?
  intro j
  by_cases hj : j < m <;> simp [madeCells, rowV, hj, Nat.mod_one]
theorem Row.R {w : World} {b m : Nat} {xs : List Int} (h : Row w b m xs) (hm : m ≤ 1000) {base : Nat} (hb : base ≤ b) : Kd.R (Kd.int .i64) 3 w base (fun _ => True) (.slice (some ⟨b, 0, none⟩) m m) xs := by
  have h1 : w.ownsRow base 3 1 (.slice (some ⟨b, 0, none⟩) m m) xs.length (encs (Value.int .i64) xs) := by
    have hs : (rowV xs).size = m := by unfold rowV; rw [List.size_toArray, List.length_map, h.len]
    refine ⟨by simp [encs], .inr ⟨b, m, rowV xs, by rw [h.len], hb, h.blk, by rw [h.len]; exact Nat.le_refl _, by unfold maxLen; omega, by rw [hs, Nat.mul_one], ?_⟩⟩
    rw [h.len, Nat.mul_one]
    unfold rowV encs
    rw [List.take_of_length_le (by rw [List.length_map, h.len]; exact Nat.le_refl _)]
  exact Kd.R_of_own h1 (fun _ _ => trivial)
def upL (m : Nat) (f : Nat → Int) (a : Nat) : List Int := (List.range m).map fun i => if i < a then f i else 0
theorem upL_len (m : Nat) (f : Nat → Int) (a : Nat) : (upL m f a).length = m := by unfold upL; simp
theorem upL_get {m : Nat} {f : Nat → Int} {a i : Nat} (h : i < m) : rd (upL m f a) (i : Int) = if i < a then f i else 0 := by
  rw [rd_get (by rw [upL_len]; exact h)]
  unfold upL
  simp
theorem upL_zero (m : Nat) (f : Nat → Int) : upL m f 0 = List.replicate m 0 := by
  unfold upL
  apply List.ext_getElem
  · simp
  · intro i h1 h2
    simp
theorem upL_ge {m : Nat} {f : Nat → Int} {a i : Nat} (h : i < (upL m f a).length) : (upL m f a)[i] = if i < a then f i else 0 := by
  simp [upL]
theorem upL_set {m : Nat} {f : Nat → Int} {a : Nat} {v : Int} (hv : v = f a) (ha : a < m) : (upL m f a).set a v = upL m f (a + 1) := by
  subst hv
  apply List.ext_getElem
  · rw [List.length_set, upL_len, upL_len]
  · intro i h1 h2
    rw [List.getElem_set, upL_ge h2]
    by_cases e : a = i
    · subst e
      rw [if_pos rfl, if_pos (by omega)]
    · rw [if_neg e, upL_ge (by rw [List.length_set] at h1; exact h1)]
      by_cases h : i < a
      · rw [if_pos h, if_pos (by omega)]
      · rw [if_neg h, if_neg (by omega)]
theorem upL_set2 {m : Nat} {f : Nat → Int} {a : Nat} {u v : Int} (hv : v = f a) (ha : a < m) : ((upL m f a).set a u).set a v = upL m f (a + 1) := by
  rw [List.set_set]
  exact upL_set hv ha
theorem wr_small {x : Int} (h0 : -1000000 ≤ x) (h1 : x ≤ 1000000) : wrap64 x = x := by unfold wrap64; omega
set_option maxHeartbeats 1000000 in
theorem near_f (n a b : Nat) (hn : 1 ≤ n) (ha : a < 1000) (hb : b < 1000) : pomaderef04_Near.f n a b = some (decide (NearN n a b)) := by
  have q1 : b / n ≤ b := Nat.div_le_self _ _
  have q2 : a / n ≤ a := Nat.div_le_self _ _
  have q3 : b % n ≤ b := Nat.mod_le _ _
  have q4 : a % n ≤ a := Nat.mod_le _ _
  have e1 : Int.tdiv (b : Int) (n : Int) = ((b / n : Nat) : Int) := by rw [Int.tdiv_eq_ediv_of_nonneg (Int.natCast_nonneg _), Int.natCast_ediv]
  have e2 : Int.tdiv (a : Int) (n : Int) = ((a / n : Nat) : Int) := by rw [Int.tdiv_eq_ediv_of_nonneg (Int.natCast_nonneg _), Int.natCast_ediv]
  have e3 : Int.tmod (b : Int) (n : Int) = ((b % n : Nat) : Int) := by rw [Int.tmod_eq_emod_of_nonneg (Int.natCast_nonneg _), Int.natCast_emod]
  have e4 : Int.tmod (a : Int) (n : Int) = ((a % n : Nat) : Int) := by rw [Int.tmod_eq_emod_of_nonneg (Int.natCast_nonneg _), Int.natCast_emod]
  have hN : NearN n a b ↔ ((a / n = b / n ∧ (a % n = b % n + 1 ∨ b % n = a % n + 1)) ∨ (b / n = a / n + 1 ∧ (b % n = a % n ∨ a % n = b % n + 1)) ∨ (a / n = b / n + 1 ∧ (a % n = b % n ∨ b % n = a % n + 1))) := Iff.rfl
  have hr := (decide_eq_true_iff (p := NearN n a b)).trans hN
  generalize decide (NearN n a b) = r at *
  unfold pomaderef04_Near.f
  rw [e1, e2, e3, e4]
  clear e1 e2 e3 e4 hN
  generalize b / n = x at *
  generalize a / n = y at *
  generalize b % n = u at *
  generalize a % n = v at *
  rw [if_neg (by omega), wr_small (x := (x : Int)) (by omega) (by omega), wr_small (x := (y : Int)) (by omega) (by omega), wr_small (x := (x : Int) - (y : Int)) (by omega) (by omega), wr_small (x := (u : Int) - (v : Int)) (by omega) (by omega)]
  clear q1 q2 q3 q4 ha hb hn
  cases r
  · have hx := mt hr.2 (by decide)
    clear hr
    repeat' split
    all_goals first
      | rfl
      | (exfalso; omega)
      | (refine congrArg some ?_; exact beq_eq_false_iff_ne.2 (by omega))
  · have hx := hr.1 rfl
    clear hr
    repeat' split
    all_goals first
      | rfl
      | (exfalso; omega)
      | (refine congrArg some ?_; exact beq_iff_eq.2 (by omega))
theorem near_q (n a b : Nat) (hn : 1 ≤ n) (ha : a < 1000) (hb : b < 1000) (w : World) : Calls Tryd.prog 68 #[.int .i64 n, .int .i64 a, .int .i64 b] w fun e w' => e = .returned (.bool (decide (NearN n a b))) ∧ ∃ m, w' = w.drewN m :=
  (pomaderef04_Near.calls n a b _ w (near_f n a b hn ha hb)).mono fun e w' ⟨h1, h2⟩ => ⟨h1, h2.out⟩
theorem ends_f (n a : Nat) (p : Int) (hn : 1 ≤ n) (h11 : n ≤ 11) (ha : a < n * n) (hp : p = 120 ∨ p = 111) : pomaderef04_ends.f n p a = some (decide (enP n p a)) := by
  have hm : n * n ≤ 121 := Nat.mul_le_mul h11 h11
  obtain ⟨k, rfl⟩ : ∃ k, n = k + 1 := ⟨n - 1, by omega⟩
  rcases hp with rfl | rfl
  · have hx : enP (k + 1) 120 a ↔ a / (k + 1) = k := by
      unfold enP endK
      rw [if_neg (by decide)]
      exact Iff.rfl
    unfold pomaderef04_ends.f
    have hk : (k + 1) * k ≤ 110 := Nat.mul_le_mul h11 (show k ≤ 10 by omega)
    have e : (((k + 1 : Nat) : Int) * (((k + 1 : Nat) : Int) - 1)) = (((k + 1) * k : Nat) : Int) := by rw [Int.natCast_mul]; congr 1; omega
    rw [if_pos rfl, wr_small (x := ((k + 1 : Nat) : Int) - 1) (by omega) (by omega), e, wr_small (by omega) (by omega)]
    refine congrArg some (decide_eq_decide.2 (Iff.trans ?_ hx.symm))
    have h1 : a / (k + 1) < k + 1 := Nat.div_lt_of_lt_mul ha
    constructor
    · intro h
      have := (Nat.le_div_iff_mul_le (show 0 < k + 1 by omega) (x := k) (y := a)).2 (by rw [Nat.mul_comm]; omega)
      omega
    · intro h
      have := (Nat.le_div_iff_mul_le (show 0 < k + 1 by omega) (x := k) (y := a)).1 (by omega)
      rw [Nat.mul_comm] at this
      omega
  · have hx : enP (k + 1) 111 a ↔ a % (k + 1) = k := by
      unfold enP endK
      rw [if_pos rfl]
      exact Iff.rfl
    unfold pomaderef04_ends.f
    rw [if_neg (by decide), if_neg (by omega), wr_small (x := ((k + 1 : Nat) : Int) - 1) (by omega) (by omega), Int.tmod_eq_emod_of_nonneg (Int.natCast_nonneg _), ← Int.natCast_emod]
    refine congrArg some ?_
    rw [Bool.eq_iff_iff, beq_iff_eq, decide_eq_true_eq, hx]
    generalize a % (k + 1) = v
    omega
theorem ends_q (n a : Nat) (p : Int) (hn : 1 ≤ n) (h11 : n ≤ 11) (ha : a < n * n) (hp : p = 120 ∨ p = 111) (w : World) : Calls Tryd.prog 69 #[.int .i64 n, .int .u8 p, .int .i64 a] w fun e w' => e = .returned (.bool (decide (enP n p a))) ∧ Below w.heap.size w w' :=
  (pomaderef04_ends.calls n p a _ w (ends_f n a p hn h11 ha hp)).mono fun e w' ⟨h1, h2⟩ => ⟨h1, h2.below⟩
theorem begins_f (n a : Nat) (p : Int) (hn : 1 ≤ n) (hp : p = 120 ∨ p = 111) : pomaderef04_begins.f n p a = some (decide (beP n p a)) := by
  rcases hp with rfl | rfl
  · have hx : beP n 120 a ↔ a / n = 0 := by
      unfold beP endK
      rw [if_neg (by decide)]
    unfold pomaderef04_begins.f
    rw [if_pos rfl]
    refine congrArg some (decide_eq_decide.2 (Iff.trans ?_ hx.symm))
    rw [Nat.div_eq_zero_iff]
    omega
  · have hx : beP n 111 a ↔ a % n = 0 := by
      unfold beP endK
      rw [if_pos rfl]
    unfold pomaderef04_begins.f
    rw [if_neg (by decide), if_neg (by omega), Int.tmod_eq_emod_of_nonneg (Int.natCast_nonneg _), ← Int.natCast_emod]
    refine congrArg some ?_
    rw [Bool.eq_iff_iff, beq_iff_eq, decide_eq_true_eq, hx]
    generalize a % n = v
    omega
theorem begins_q (n a : Nat) (p : Int) (hn : 1 ≤ n) (hp : p = 120 ∨ p = 111) (w : World) : Calls Tryd.prog 50 #[.int .i64 n, .int .u8 p, .int .i64 a] w fun e w' => e = .returned (.bool (decide (beP n p a))) ∧ Below w.heap.size w w' :=
  (pomaderef04_begins.calls n p a _ w (begins_f n a p hn hp)).mono fun e w' ⟨h1, h2⟩ => ⟨h1, h2.below⟩
def cstI (p own emp c : Int) : Int := if c = p then own else if c = 46 then emp else 1000
structure Cst (p own emp : Int) (cost : Int → Int) : Prop where
  of : ∀ c, cstI p own emp c = if 0 ≤ cost c then cost c else 1000
  le : ∀ c, cost c ≤ 1
theorem cst_one (p : Int) : Cst p 1 1000 (cost1 p) := ⟨fun c => by
  unfold cstI cost1
  by_cases h : c = p
  · rw [if_pos h, if_pos h]; rfl
  · rw [if_neg h, if_neg h]
    by_cases k : c = 46
    · rw [if_pos k]; rfl
    · rw [if_neg k]; rfl, cost1_le p⟩
section
variable {n : Nat} {p own emp : Int} {bs : List Int} {cost : Int → Int}
abbrev WyC (n : Nat) (p : Int) (bs : List Int) (cost : Int → Int) (P : List Nat) : Prop := Wy (n * n) (NearN n) (okC bs cost) (enP n p) P
def cI (p own emp : Int) (bs : List Int) (a : Nat) : Int := cstI p own emp (bs.getD a 0)
def oI (n : Nat) (p own emp : Int) (bs : List Int) (a : Nat) : Int := if enP n p a ∧ cI p own emp bs a < 1000 then cI p own emp bs a else 1000
theorem cI_ok (h : Cst p own emp cost) (a : Nat) : (cI p own emp bs a < 1000 ↔ okC bs cost a) ∧ (okC bs cost a → cI p own emp bs a = (coC bs cost a : Nat)) ∧ 0 ≤ cI p own emp bs a ∧ cI p own emp bs a ≤ 1000 ∧ coC bs cost a ≤ 1 := by
  have h1 := h.of (bs.getD a 0)
  have h2 := h.le (bs.getD a 0)
  unfold cI okC coC
  rw [h1]
  split
  · refine ⟨⟨fun _ => by assumption, fun _ => by omega⟩, fun _ => by omega, by omega, by omega, by omega⟩
  · refine ⟨⟨fun h => by omega, fun h => by omega⟩, fun h => by omega, by omega, by omega, by omega⟩
structure WayI (n : Nat) (p : Int) (bs : List Int) (cost : Int → Int) (xs : List Int) : Prop where
  low : ∀ a, a < n * n → 0 ≤ rd xs (a : Int) ∧ rd xs (a : Int) ≤ 1000
  real : ∀ a, a < n * n → rd xs (a : Int) < 1000 → ∃ P, WyC n p bs cost P ∧ headN P = a ∧ (costN (coC bs cost) P : Int) = rd xs (a : Int)
  first : ∀ a, a < n * n → okC bs cost a → enP n p a → rd xs (a : Int) ≤ (coC bs cost a : Nat)
def St (n : Nat) (p own emp : Int) (bs xs : List Int) (a b : Nat) : Prop := cI p own emp bs a < 1000 → NearN n a b → rd xs (a : Int) ≤ rd xs (b : Int) + cI p own emp bs a
theorem WayI.start (h : Cst p own emp cost) : WayI n p bs cost (upL (n * n) (oI n p own emp bs) (n * n)) := by
  have g : ∀ a, a < n * n → rd (upL (n * n) (oI n p own emp bs) (n * n)) (a : Int) = oI n p own emp bs a := fun a ha => by rw [upL_get ha, if_pos ha]
  refine ⟨fun a ha => ?_, fun a ha hl => ?_, fun a ha ho he => ?_⟩
  · rw [g a ha]
    obtain ⟨_, _, h3, h4, _⟩ := cI_ok (bs := bs) h a
    unfold oI
    split <;> omega
  · rw [g a ha] at hl ⊢
    unfold oI at hl ⊢
    split at hl
    · rename_i hc
      have hk := (cI_ok (bs := bs) h a).1.1 hc.2
      refine ⟨[a], Wy.one ha hk hc.1, rfl, ?_⟩
      rw [if_pos hc, (cI_ok (bs := bs) h a).2.1 hk]
      rfl
    · omega
  · rw [g a ha]
    have hc := (cI_ok (bs := bs) h a).1.2 ho
    unfold oI
    rw [if_pos ⟨he, hc⟩, (cI_ok (bs := bs) h a).2.1 ho]
    exact Int.le_refl _
theorem rd_set {xs : List Int} {i : Nat} {v : Int} (h : i < xs.length) (a : Nat) : rd (xs.set i v) (a : Int) = if a = i then v else rd xs (a : Int) := by
  show (xs.set i v).getD ((a : Nat) : Int).toNat 0 = if a = i then v else xs.getD ((a : Nat) : Int).toNat 0
  rw [Int.toNat_natCast, List.getD, List.getD]
  by_cases e : a = i
  · subst e
    rw [if_pos rfl, List.getElem?_set_self h]
    rfl
  · rw [if_neg e, List.getElem?_set_ne (fun x => e x.symm)]
theorem WayI.turn {xs : List Int} (h : Cst p own emp cost) (hw : WayI n p bs cost xs) (hl : xs.length = n * n) {a b : Nat} (ha : a < n * n) (hb : b < n * n) (hc : cI p own emp bs a < 1000) (hn : NearN n a b) (hlt : rd xs (b : Int) + cI p own emp bs a < rd xs (a : Int)) :
    WayI n p bs cost (xs.set a (rd xs (b : Int) + cI p own emp bs a)) := by
  have hk := (cI_ok (bs := bs) h a).1.1 hc
  obtain ⟨_, e2, e3, e4, e5⟩ := cI_ok (bs := bs) h a
  have e2 := e2 hk
  refine ⟨fun x hx => ?_, fun x hx hl2 => ?_, fun x hx ho he => ?_⟩
  · rw [rd_set (by omega)]
    have := hw.low a ha
    have := hw.low b hb
    split
    · omega
    · exact hw.low x hx
  · rw [rd_set (by omega)] at hl2 ⊢
    by_cases e : x = a
    · subst e
      rw [if_pos rfl]
      have := hw.low x hx
      obtain ⟨P, p1, p2, p3⟩ := hw.real b hb (by omega)
      refine ⟨x :: P, p1.cons hx hk (by rw [p2]; exact hn), rfl, ?_⟩
      show ((coC bs cost x + costN (coC bs cost) P : Nat) : Int) = _
      rw [Int.natCast_add, p3, e2]
      omega
    · rw [if_neg e] at hl2 ⊢
      exact hw.real x hx hl2
  · rw [rd_set (by omega)]
    have := hw.first x hx ho he
    split
    · rename_i e
      subst e
      omega
    · exact this
structure Ways (n : Nat) (p : Int) (bs : List Int) (cost : Int → Int) (xs : List Int) : Prop where
  len : xs.length = n * n
  low : ∀ a, a < n * n → 0 ≤ rd xs (a : Int) ∧ rd xs (a : Int) ≤ 1000
  some_ : ∀ a, a < n * n → rd xs (a : Int) < 1000 → Least (n * n) (NearN n) (okC bs cost) (enP n p) (coC bs cost) a (rd xs (a : Int)).toNat
  none_ : ∀ a, a < n * n → rd xs (a : Int) = 1000 → ∀ P, WyC n p bs cost P → headN P ≠ a
theorem cost_few (h : Cst p own emp cost) : ∀ P : List Nat, costN (coC bs cost) P ≤ P.length
  | [] => Nat.le_refl _
  | a :: t => by
    have := (cI_ok (bs := bs) h a).2.2.2.2
    have := cost_few h t
    show coC bs cost a + costN (coC bs cost) t ≤ t.length + 1
    omega
theorem WayI.fin {xs : List Int} (h : Cst p own emp cost) (hw : WayI n p bs cost xs) (hl : xs.length = n * n) (h121 : n * n ≤ 121) (hs : ∀ a, a < n * n → ∀ b, b < n * n → St n p own emp bs xs a b) : Ways n p bs cost xs := by
  have key : ∀ P, WyC n p bs cost P → (fun a => (rd xs ((a : Nat) : Int)).toNat) (headN P) ≤ costN (coC bs cost) P := stable_le (w := fun a => (rd xs ((a : Nat) : Int)).toNat) (fun a ha ho he => by
    have := hw.first a ha ho he
    have := hw.low a ha
    show (rd xs (a : Int)).toNat ≤ _
    omega) (fun a b ha hb hoa hob hn => by
    have h1 := hs a ha b hb ((cI_ok (bs := bs) h a).1.2 hoa) hn
    have h2 := (cI_ok (bs := bs) h a).2.1 hoa
    have := hw.low a ha
    have := hw.low b hb
    show (rd xs (a : Int)).toNat ≤ (rd xs (b : Int)).toNat + _
    omega)
  refine ⟨hl, hw.low, fun a ha hlt => ⟨?_, fun P hP hh => ?_⟩, fun a ha he P hP hh => ?_⟩
  · obtain ⟨P, p1, p2, p3⟩ := hw.real a ha hlt
    exact ⟨P, p1, p2, by omega⟩
  · have := key P hP
    rw [hh] at this
    exact this
  · obtain ⟨P', q1, q2, q3, q4⟩ := hP.simple (c := coC bs cost)
    have h1 := key P' q1
    have h2 := cost_few h P' (bs := bs)
    have h3 := nodup_len _ P' q3 (fun x hx => (q1.mem x hx).1)
    rw [q2, hh] at h1
    have h4 : (rd xs (a : Int)).toNat ≤ costN (coC bs cost) P' := h1
    omega
def tot (xs : List Int) : Nat := (xs.map Int.toNat).sum
theorem tot_set : ∀ {xs : List Int} {i : Nat} {v : Int} (h : i < xs.length), 0 ≤ v → v < xs[i] → tot (xs.set i v) < tot xs
  | x :: t, 0, v, h, h0, hv => by
    have hv' : v < x := hv
    show v.toNat + tot t < x.toNat + tot t
    omega
  | x :: t, i + 1, v, h, h0, hv => by
    have := tot_set (xs := t) (i := i) (v := v) (by simpa using h) h0 (by simpa using hv)
    show x.toNat + tot (t.set i v) < x.toNat + tot t
    omega
end
end Go.Proofs.YtlmgkmmdaecpdaaDoor.Im

namespace Go.Proofs.YtlmgkmmdaecpdaaDoor.Im
open Go.RowKit Go.Proofs.YtlmgkmmdaecpdaaDoorW.PrintWords Go.Proofs.YtlmgkmmdaecpdaaDoorW.PrintLast Go.Proofs.YtlmgkmmdaecpdaaDoorW.PrintMore Go.Proofs.YtlmgkmmdaecpdaaDoor.Mi
set_option linter.unusedVariables false
set_option linter.unusedSimpArgs false
theorem st_next {n : Nat} {p own emp : Int} {bs xs ys : List Int} {a b : Nat} {ag : Bool} {D : Prop} (h : ag = false → ys = xs ∧ D ∧ ∀ b', b' < b → St n p own emp bs xs a b') (hs : St n p own emp bs ys a b) : ag = false → ys = xs ∧ D ∧ ∀ b', b' < b + 1 → St n p own emp bs xs a b' := fun e => by
  obtain ⟨h1, h2, h3⟩ := h e
  refine ⟨h1, h2, fun b' hb' => ?_⟩
  rcases Nat.lt_or_ge b' b with k | k
  · exact h3 b' k
  · obtain rfl : b' = b := by omega
    rw [← h1]
    exact hs
theorem below_set2 {B : Nat} {w w' : World} {g i : Nat} {v : Value} (h : Below B w w') (hg : B ≤ g) : Below B w (w'.setCell ⟨g, i, none⟩ v) := h.setCell hg _
set_option maxHeartbeats 6400000 in
set_option maxRecDepth 100000 in
theorem ways_any (n : Nat) (s : ByteArray) (p own emp : Int) (cost : Int → Int) (w : World) (hc : Cst p own emp cost) (hn : 1 ≤ n) (h11 : n ≤ 11) (hsz : s.size = n * n) (hp : p = 120 ∨ p = 111) :
    Calls Tryd.prog 49 #[.int .i64 n, .string s, .int .u8 p, .int .i64 own, .int .i64 emp] w fun e w' => ∃ (b : Nat) (xs : List Int), e = .returned (.slice (some ⟨b, 0, none⟩) (n * n) (n * n)) ∧ Row w' b (n * n) xs ∧ w.heap.size ≤ b ∧ Ways n p (bsOf s) cost xs ∧ Below w.heap.size w w' := by
  have HC := Aside0.mk hc
  have hM : n * n ≤ 121 := Nat.mul_le_mul h11 h11
  obtain ⟨M, hMM⟩ : ∃ M, n * n = M := ⟨_, rfl⟩
  have HMM := Aside0.mk hMM
  have hnn : (n : Int) * (n : Int) = (M : Int) := by rw [← hMM, Int.natCast_mul]
  rw [hMM] at hM hsz ⊢
  have HSZ := Aside0.mk hsz
  clear hMM hsz hc
  have mk := row_make M (by omega)
  have m0 : (0 : Int) ≤ (M : Int) := by omega
  have m1 : (M : Int) ≤ 121 := by omega
  go_enter Tryd.func49, Tryd.ntmps49
  go_wp2_with fail
  obtain ⟨bo, hbo⟩ : ∃ bo, w.heap.size = bo := ⟨_, rfl⟩
  obtain ⟨fo, hfo⟩ : ∃ f, oI n p own emp (bsOf s) = f := ⟨_, rfl⟩
  obtain ⟨fc, hfc⟩ : ∃ f, cI p own emp (bsOf s) = f := ⟨_, rfl⟩
  have hr1 : Row ((w.alloc (.cells (rowV (List.replicate M 0)) 3)).alloc (.cells (rowV (List.replicate M 0)) 3)) bo M (upL M fo 0) := by
    rw [upL_zero, ← hbo]
    exact ⟨(Blk.new w _ _).alloc _, List.length_replicate⟩
  have hr2 : Row ((w.alloc (.cells (rowV (List.replicate M 0)) 3)).alloc (.cells (rowV (List.replicate M 0)) 3)) (bo + 1) M (upL M fc 0) := by
    rw [upL_zero]
    have h := Blk.new (w.alloc (.cells (rowV (List.replicate M 0)) 3)) 3 (rowV (List.replicate M 0))
    rw [show (w.alloc (.cells (rowV (List.replicate M 0)) 3)).heap.size = bo + 1 from by rw [← hbo]; simp] at h
    exact ⟨h, List.length_replicate⟩
  have hb0 : Below bo w ((w.alloc (.cells (rowV (List.replicate M 0)) 3)).alloc (.cells (rowV (List.replicate M 0)) 3)) := hbo ▸ below_alloc (below_alloc (Below.refl _ _) _) _
  have HR1 := Aside0.mk hr1
  have HR2 := Aside0.mk hr2
  have HB0 := Aside0.mk hb0
  have HBO := Aside0.mk hbo
  rw [hbo]
  clear hr1 hr2 hb0 hbo mk
  have HFO := Aside0.mk hfo
  have HFC := Aside0.mk hfc
  clear hfo hfc
  generalize (w.alloc (.cells (rowV (List.replicate M 0)) 3)).alloc (.cells (rowV (List.replicate M 0)) 3) = W0 at *
  go_loopw [13] (fun v13 wr => ∃ a : Nat, a ≤ M ∧ v13 = .int .i64 (a : Int) ∧ Aside0 (Row wr bo M (upL M fo a)) ∧ Aside0 (Row wr (bo + 1) M (upL M fc a)) ∧ Aside0 (Below bo w wr)) (fun v _ => M - (intOf v).toNat)
  case atStart => exact ⟨0, Nat.zero_le _, rfl, HR1, HR2, HB0⟩
  case round =>
    clear HR1 HR2 HB0
    obtain ⟨a, ha, rfl, HR1, HR2, HBr⟩ := hrel
    by_cases haM : a < M
    · have g1 : decide ((a : Int) < (M : Int)) = true := decide_eq_true (by omega)
      have g2 : decide (a < M) = true := decide_eq_true haM
      have u0 : (0 : Int) ≤ (a : Int) := by omega
      have u1 : (a : Int) < (M : Int) := by omega
      have hsa : a < s.size := by rw [HSZ.out]; exact haM
      have u2 : (a : Int) < (s.size : Int) := by omega
      obtain ⟨x, hx⟩ : ∃ x : Int, ((s[a]'hsa).toNat : Int) = x := ⟨_, rfl⟩
      have hbx : (bsOf s).getD a 0 = x := by
        rw [← bt_bs, ← hx]
        exact (bt_at s (a : Int) (by rw [Int.toNat_natCast]; exact hsa)).symm
      have f1 : wr.frozen? ⟨bo, a, none⟩ = false := HR1.out.blk.frozen a
      have c1 := HR1.out.get haM
      have f2 : wr.frozen? ⟨bo + 1, a, none⟩ = false := HR2.out.blk.frozen a
      have c2 := HR2.out.get haM
      generalize rd (upL M fo a) (a : Int) = z1 at *
      generalize rd (upL M fc a) (a : Int) = z2 at *
      obtain ⟨cv, hcv⟩ : ∃ cv, fc a = cv := ⟨_, rfl⟩
      have hcx : cv = cstI p own emp x := by rw [← hcv, ← HFC.out]; unfold cI; rw [hbx]
      have hbb := HBO.out
      have HSA := Aside0.mk hsa
      have key : ∀ (v : Int) (W : World), v = cv → W = (wr.setCell ⟨bo, a, none⟩ (.int .i64 1000)).setCell ⟨bo + 1, a, none⟩ (.int .i64 v) → Row W bo M ((upL M fo a).set a 1000) ∧ Row W (bo + 1) M (upL M fc (a + 1)) ∧ Below bo w W := fun v W hv hW => by
        subst hW
        refine ⟨(HR1.out.set a 1000).far (by simp) _, ?_, ?_⟩
        · rw [← upL_set (v := v) (by rw [hv, hcv]) haM]
          exact (HR2.out.far (by simp) _).set a v
        · exact below_set2 (below_set2 HBr.out (Nat.le_refl _)) (Nat.le_succ _)
      have HKEY := Aside0.mk key
      have hov : fo a = if enP n p a ∧ cv < 1000 then cv else 1000 := by rw [← HFO.out]; unfold oI; rw [HFC.out, hcv]
      have HOV := Aside0.mk hov
      have HCV := Aside0.mk hcv
      have HEn := Aside0.mk (fun w1 => ends_q n a p hn h11 (by rw [HMM.out]; exact haM) hp w1)
      clear key hov hbb hcv hbx
      by_cases h1 : x = p
      · have q1 : (x == p) = true := beq_iff_eq.2 h1
        have hv : own = cv := by rw [hcx]; unfold cstI; rw [if_pos h1]
        have HV := Aside0.mk hv
        clear hcx h1 hv
        go_wp2_with fail
        obtain ⟨k1, k2, k3⟩ := HKEY.out own _ HV.out rfl
        have K1 := Aside0.mk k1
        have K2 := Aside0.mk k2
        have K3 := Aside0.mk k3
        clear k1 k2 k3 f1 f2 c1 c2 HKEY HR1 HR2 HBr
        generalize (wr.setCell ⟨bo, a, none⟩ (.int .i64 1000)).setCell ⟨bo + 1, a, none⟩ (.int .i64 own) = W1 at *
        refine (HEn.out W1).mono ?_
        rintro e w2 ⟨rfl, hb2⟩
        have L1 := Aside0.mk (K1.out.later hb2)
        have L2 := Aside0.mk (K2.out.later hb2)
        have L3 := Aside0.mk (below_then K3.out (Nat.le_of_lt K1.out.blk.lt) hb2)
        have c3 : w2.cell? ⟨bo + 1, a, none⟩ = some (.int .i64 cv) := by rw [L2.out.get haM, upL_get haM, if_pos (by omega)]; exact congrArg (fun z => some (Value.int .i64 z)) HCV.out
        have f3 : w2.frozen? ⟨bo, a, none⟩ = false := L1.out.blk.frozen a
        have c4 := L1.out.get haM
        clear hb2 K1 K2 K3 HEn
        by_cases hle : enP n p a ∧ cv < 1000
        · have q3 : decide (enP n p a) = true := decide_eq_true hle.1
          have q4 : decide (cv < 1000) = true := decide_eq_true hle.2
          have HOV2 := Aside0.mk (show cv = fo a from by rw [HOV.out, if_pos hle])
          rw [q3]
          clear hle q3
          go_wp2_with fail
          have r1 : Row (w2.setCell ⟨bo, a, none⟩ (.int .i64 cv)) bo M (upL M fo (a + 1)) := by
            rw [← upL_set2 (u := 1000) HOV2.out haM]
            exact L1.out.set a cv
          have r2 := L2.out.far (p := ⟨bo, a, none⟩) (by simp) (.int .i64 cv)
          have r3 := below_set2 (v := .int .i64 cv) (i := a) L3.out (Nat.le_refl bo)
          have RR1 := Aside0.mk r1
          have RR2 := Aside0.mk r2
          have RR3 := Aside0.mk r3
          clear r1 r2 r3 c3 c4 f3
          go_wp2_with fail
          go_roundw
          case rel => exact ⟨a + 1, haM, by go_num, RR1, RR2, RR3⟩
          case measure => simp [intOf]; omega
        · have r1 : Row w2 bo M (upL M fo (a + 1)) := by
            rw [← upL_set (v := 1000) (by rw [HOV.out, if_neg hle]) haM]
            exact L1.out
          have RR1 := Aside0.mk r1
          rcases Bool.eq_false_or_eq_true (decide (enP n p a)) with q3 | q3
          · have q4 : decide (cv < 1000) = false := decide_eq_false (fun h => hle ⟨of_decide_eq_true q3, h⟩)
            rw [q3]
            clear hle q3 r1
            go_wp2_with fail
            go_roundw
            case rel => exact ⟨a + 1, haM, by go_num, RR1, L2, L3⟩
            case measure => simp [intOf]; omega
          · rw [q3]
            clear hle q3 r1
            go_wp2_with fail
            go_roundw
            case rel => exact ⟨a + 1, haM, by go_num, RR1, L2, L3⟩
            case measure => simp [intOf]; omega
      · have q1 : (x == p) = false := beq_eq_false_iff_ne.2 h1
        by_cases h2 : x = 46
        · have q2 : (x == 46) = true := beq_iff_eq.2 h2
          have hv : emp = cv := by rw [hcx]; unfold cstI; rw [if_neg h1, if_pos h2]
          have HV := Aside0.mk hv
          clear hcx h1 h2 hv
          go_wp2_with fail
          obtain ⟨k1, k2, k3⟩ := HKEY.out emp _ HV.out rfl
          have K1 := Aside0.mk k1
          have K2 := Aside0.mk k2
          have K3 := Aside0.mk k3
          clear k1 k2 k3 f1 f2 c1 c2 HKEY HR1 HR2 HBr
          generalize (wr.setCell ⟨bo, a, none⟩ (.int .i64 1000)).setCell ⟨bo + 1, a, none⟩ (.int .i64 emp) = W1 at *
          refine (HEn.out W1).mono ?_
          rintro e w2 ⟨rfl, hb2⟩
          have L1 := Aside0.mk (K1.out.later hb2)
          have L2 := Aside0.mk (K2.out.later hb2)
          have L3 := Aside0.mk (below_then K3.out (Nat.le_of_lt K1.out.blk.lt) hb2)
          have c3 : w2.cell? ⟨bo + 1, a, none⟩ = some (.int .i64 cv) := by rw [L2.out.get haM, upL_get haM, if_pos (by omega)]; exact congrArg (fun z => some (Value.int .i64 z)) HCV.out
          have f3 : w2.frozen? ⟨bo, a, none⟩ = false := L1.out.blk.frozen a
          have c4 := L1.out.get haM
          clear hb2 K1 K2 K3 HEn
          by_cases hle : enP n p a ∧ cv < 1000
          · have q3 : decide (enP n p a) = true := decide_eq_true hle.1
            have q4 : decide (cv < 1000) = true := decide_eq_true hle.2
            have HOV2 := Aside0.mk (show cv = fo a from by rw [HOV.out, if_pos hle])
            rw [q3]
            clear hle q3
            go_wp2_with fail
            have r1 : Row (w2.setCell ⟨bo, a, none⟩ (.int .i64 cv)) bo M (upL M fo (a + 1)) := by
              rw [← upL_set2 (u := 1000) HOV2.out haM]
              exact L1.out.set a cv
            have r2 := L2.out.far (p := ⟨bo, a, none⟩) (by simp) (.int .i64 cv)
            have r3 := below_set2 (v := .int .i64 cv) (i := a) L3.out (Nat.le_refl bo)
            have RR1 := Aside0.mk r1
            have RR2 := Aside0.mk r2
            have RR3 := Aside0.mk r3
            clear r1 r2 r3 c3 c4 f3
            go_wp2_with fail
            go_roundw
            case rel => exact ⟨a + 1, haM, by go_num, RR1, RR2, RR3⟩
            case measure => simp [intOf]; omega
          · have r1 : Row w2 bo M (upL M fo (a + 1)) := by
              rw [← upL_set (v := 1000) (by rw [HOV.out, if_neg hle]) haM]
              exact L1.out
            have RR1 := Aside0.mk r1
            rcases Bool.eq_false_or_eq_true (decide (enP n p a)) with q3 | q3
            · have q4 : decide (cv < 1000) = false := decide_eq_false (fun h => hle ⟨of_decide_eq_true q3, h⟩)
              rw [q3]
              clear hle q3 r1
              go_wp2_with fail
              go_roundw
              case rel => exact ⟨a + 1, haM, by go_num, RR1, L2, L3⟩
              case measure => simp [intOf]; omega
            · rw [q3]
              clear hle q3 r1
              go_wp2_with fail
              go_roundw
              case rel => exact ⟨a + 1, haM, by go_num, RR1, L2, L3⟩
              case measure => simp [intOf]; omega
        · have q2 : (x == 46) = false := beq_eq_false_iff_ne.2 h2
          have hv : (1000 : Int) = cv := by rw [hcx]; unfold cstI; rw [if_neg h1, if_neg h2]
          have HV := Aside0.mk hv
          clear hcx h1 h2 hv
          go_wp2_with fail
          obtain ⟨k1, k2, k3⟩ := HKEY.out 1000 _ HV.out rfl
          have K1 := Aside0.mk k1
          have K2 := Aside0.mk k2
          have K3 := Aside0.mk k3
          clear k1 k2 k3 f1 f2 c1 c2 HKEY HR1 HR2 HBr
          generalize (wr.setCell ⟨bo, a, none⟩ (.int .i64 1000)).setCell ⟨bo + 1, a, none⟩ (.int .i64 1000) = W1 at *
          refine (HEn.out W1).mono ?_
          rintro e w2 ⟨rfl, hb2⟩
          have L1 := Aside0.mk (K1.out.later hb2)
          have L2 := Aside0.mk (K2.out.later hb2)
          have L3 := Aside0.mk (below_then K3.out (Nat.le_of_lt K1.out.blk.lt) hb2)
          have c3 : w2.cell? ⟨bo + 1, a, none⟩ = some (.int .i64 cv) := by rw [L2.out.get haM, upL_get haM, if_pos (by omega)]; exact congrArg (fun z => some (Value.int .i64 z)) HCV.out
          have f3 : w2.frozen? ⟨bo, a, none⟩ = false := L1.out.blk.frozen a
          have c4 := L1.out.get haM
          clear hb2 K1 K2 K3 HEn
          by_cases hle : enP n p a ∧ cv < 1000
          · have q3 : decide (enP n p a) = true := decide_eq_true hle.1
            have q4 : decide (cv < 1000) = true := decide_eq_true hle.2
            have HOV2 := Aside0.mk (show cv = fo a from by rw [HOV.out, if_pos hle])
            rw [q3]
            clear hle q3
            go_wp2_with fail
            have r1 : Row (w2.setCell ⟨bo, a, none⟩ (.int .i64 cv)) bo M (upL M fo (a + 1)) := by
              rw [← upL_set2 (u := 1000) HOV2.out haM]
              exact L1.out.set a cv
            have r2 := L2.out.far (p := ⟨bo, a, none⟩) (by simp) (.int .i64 cv)
            have r3 := below_set2 (v := .int .i64 cv) (i := a) L3.out (Nat.le_refl bo)
            have RR1 := Aside0.mk r1
            have RR2 := Aside0.mk r2
            have RR3 := Aside0.mk r3
            clear r1 r2 r3 c3 c4 f3
            go_wp2_with fail
            go_roundw
            case rel => exact ⟨a + 1, haM, by go_num, RR1, RR2, RR3⟩
            case measure => simp [intOf]; omega
          · have r1 : Row w2 bo M (upL M fo (a + 1)) := by
              rw [← upL_set (v := 1000) (by rw [HOV.out, if_neg hle]) haM]
              exact L1.out
            have RR1 := Aside0.mk r1
            rcases Bool.eq_false_or_eq_true (decide (enP n p a)) with q3 | q3
            · have q4 : decide (cv < 1000) = false := decide_eq_false (fun h => hle ⟨of_decide_eq_true q3, h⟩)
              rw [q3]
              clear hle q3 r1
              go_wp2_with fail
              go_roundw
              case rel => exact ⟨a + 1, haM, by go_num, RR1, L2, L3⟩
              case measure => simp [intOf]; omega
            · rw [q3]
              clear hle q3 r1
              go_wp2_with fail
              go_roundw
              case rel => exact ⟨a + 1, haM, by go_num, RR1, L2, L3⟩
              case measure => simp [intOf]; omega
    · have g1 : decide ((a : Int) < (M : Int)) = false := decide_eq_false (by omega)
      have g2 : decide (a < M) = false := decide_eq_false haM
      obtain rfl : M = a := by omega
      have hw0 : WayI n p (bsOf s) cost (upL M fo M) := by
        rw [← HFO.out, ← HMM.out]
        exact WayI.start HC.out
      have hcs : ∀ a, a < M → rd (upL M fc M) (a : Int) = cI p own emp (bsOf s) a := fun a ha => by
        rw [upL_get ha, if_pos ha, HFC.out]
      have hcb : ∀ a, 0 ≤ cI p own emp (bsOf s) a ∧ cI p own emp (bsOf s) a ≤ 1000 := fun a => ⟨(cI_ok HC.out a).2.2.1, (cI_ok HC.out a).2.2.2.1⟩
      obtain ⟨cs, hcs0⟩ : ∃ cs, upL M fc M = cs := ⟨_, rfl⟩
      obtain ⟨xs0, hxs0⟩ : ∃ xs, upL M fo M = xs := ⟨_, rfl⟩
      rw [hcs0] at HR2 hcs
      rw [hxs0] at HR1 hw0
      have HW0 := Aside0.mk hw0
      have HCS := Aside0.mk hcs
      have HCB := Aside0.mk hcb
      clear hw0 hcs hcb hcs0 hxs0 HFO HFC ha
      have HNr := Aside0.mk (fun (a b : Nat) (ha : a < M) (hb : b < M) (w1 : World) => near_q n a b hn (by omega) (by omega) w1)
      generalize hbs : bsOf s = bs at *
      have HBS := Aside0.mk hbs
      clear hbs
      go_wp2_with fail
      go_loopg [14, 15, 16] (tot xs0 + 2) (fun gq v14 v15 v16 w2 => ∃ (ag : Bool) (xs : List Int), v14 = .bool ag ∧ Aside0 (0 < gq ∧ (ag = true → tot xs + 1 < gq)) ∧ Aside0 (Row w2 bo M xs) ∧ Aside0 (Row w2 (bo + 1) M cs) ∧ Aside0 (WayI n p bs cost xs) ∧ Aside0 (ag = false → ∀ a, a < M → ∀ b, b < M → St n p own emp bs xs a b) ∧ Aside0 (Below bo w w2))
      case atStart => exact ⟨true, xs0, rfl, ⟨by omega, fun _ => by omega⟩, HR1, HR2, HW0, ⟨fun h => by cases h⟩, HBr⟩
      case round =>
        clear HR1 HR2 HW0 HBr
        obtain ⟨ag, xs, rfl, HQ, HX, HCr, HW, HS, HBr⟩ := hrel
        generalize gk = gO at *
        cases ag
        · have hfin := WayI.fin HC.out HW.out (by rw [HX.out.len, HMM.out]) (by rw [HMM.out]; exact hM) (by rw [HMM.out]; exact HS.out rfl)
          have HFin := Aside0.mk hfin
          have HBw := HBr
          clear hfin
          go_wp2_with fail
          go_ret
          exact ⟨bo, rfl, xs, HX.out, Nat.le_of_eq HBO.out, HBS.out.symm ▸ HFin.out, HBO.out ▸ HBw.out⟩
        · go_wp2_with fail
          go_loopw [14, 15, 16] (fun v14 v15 v16 w3 => ∃ (ag : Bool) (ys : List Int) (a : Nat), a ≤ M ∧ v14 = .bool ag ∧ v15 = .int .i64 (a : Int) ∧ Aside0 (Row w3 bo M ys) ∧ Aside0 (Row w3 (bo + 1) M cs) ∧ Aside0 (WayI n p bs cost ys) ∧ Aside0 (ag = false → ys = xs ∧ ∀ a', a' < a → ∀ b, b < M → St n p own emp bs xs a' b) ∧ Aside0 (ag = true → tot ys < tot xs) ∧ Aside0 (Below bo w w3)) (fun _ v15 _ _ => M - (intOf v15).toNat)
          case atStart => exact ⟨false, xs, 0, Nat.zero_le _, rfl, rfl, HX, HCr, HW, ⟨fun _ => ⟨rfl, fun a' h => absurd h (by omega)⟩⟩, ⟨fun h => by cases h⟩, HBr⟩
          case round =>
            clear HX HCr HW HS HBr
            obtain ⟨ag, ys, a, ha, rfl, rfl, HY, HCr, HW, HS, HT, HBr⟩ := hrel
            by_cases haM : a < M
            · have g1 : decide ((a : Int) < (M : Int)) = true := decide_eq_true (by omega)
              have g2 : decide (a < M) = true := decide_eq_true haM
              go_wp2_with fail
              go_loopw [14, 16] (fun v14 v16 w4 => ∃ (ag : Bool) (ys : List Int) (b : Nat), b ≤ M ∧ v14 = .bool ag ∧ v16 = .int .i64 (b : Int) ∧ Aside0 (Row w4 bo M ys) ∧ Aside0 (Row w4 (bo + 1) M cs) ∧ Aside0 (WayI n p bs cost ys) ∧ Aside0 (ag = false → ys = xs ∧ (∀ a', a' < a → ∀ b, b < M → St n p own emp bs xs a' b) ∧ ∀ b', b' < b → St n p own emp bs xs a b') ∧ Aside0 (ag = true → tot ys < tot xs) ∧ Aside0 (Below bo w w4)) (fun _ v16 _ => M - (intOf v16).toNat)
              case atStart => exact ⟨ag, ys, 0, Nat.zero_le _, rfl, rfl, HY, HCr, HW, ⟨fun h => ⟨(HS.out h).1, (HS.out h).2, fun b' h => absurd h (by omega)⟩⟩, HT, HBr⟩
              case round =>
                clear HY HCr HW HS HT HBr
                obtain ⟨ag, ys, b, hb, rfl, rfl, HY, HCr, HW, HS, HT, HBr⟩ := hrel
                by_cases hbM : b < M
                · have g3 : decide ((b : Int) < (M : Int)) = true := decide_eq_true (by omega)
                  have g4 : decide (b < M) = true := decide_eq_true hbM
                  have u0 : (0 : Int) ≤ (a : Int) := by omega
                  have u1 : (a : Int) < (M : Int) := by omega
                  have u2 : (0 : Int) ≤ (b : Int) := by omega
                  have u3 : (b : Int) < (M : Int) := by omega
                  have ca := HCr.out.get haM
                  rw [HCS.out a haM] at ca
                  have xa := HY.out.get haM
                  have xb := HY.out.get hbM
                  have hcb := HCB.out a
                  have hla := HW.out.low a (by rw [HMM.out]; exact haM)
                  have hlb := HW.out.low b (by rw [HMM.out]; exact hbM)
                  have HSt : Aside0 (St n p own emp bs ys a b ↔ (cI p own emp bs a < 1000 → NearN n a b → rd ys (a : Int) ≤ rd ys (b : Int) + cI p own emp bs a)) := ⟨Iff.rfl⟩
                  have HTu : Aside0 (cI p own emp bs a < 1000 → NearN n a b → rd ys (b : Int) + cI p own emp bs a < rd ys (a : Int) → WayI n p bs cost (ys.set a (rd ys (b : Int) + cI p own emp bs a)) ∧ tot (ys.set a (rd ys (b : Int) + cI p own emp bs a)) < tot ys) := ⟨fun h1 h2 h3 => ⟨HW.out.turn HC.out (by rw [HY.out.len, HMM.out]) (by rw [HMM.out]; exact haM) (by rw [HMM.out]; exact hbM) h1 h2 h3, tot_set (by rw [HY.out.len]; exact haM) (by omega) (by rw [← rd_get (by rw [HY.out.len]; exact haM)]; exact h3)⟩⟩
                  obtain ⟨cv, hcv⟩ : ∃ c, cI p own emp bs a = c := ⟨_, rfl⟩
                  obtain ⟨va, hva⟩ : ∃ c, rd ys (a : Int) = c := ⟨_, rfl⟩
                  obtain ⟨vb, hvb⟩ : ∃ c, rd ys (b : Int) = c := ⟨_, rfl⟩
                  rw [hcv] at ca hcb HSt HTu
                  rw [hva] at xa hla HSt HTu
                  rw [hvb] at xb hlb HSt HTu
                  obtain ⟨hcb0, hcb1⟩ := hcb
                  obtain ⟨hla0, hla1⟩ := hla
                  obtain ⟨hlb0, hlb1⟩ := hlb
                  have HNab := Aside0.mk (HNr.out a b haM hbM)
                  clear hcv hva hvb
                  by_cases h1 : cv < 1000
                  · have q1 : decide (cv < 1000) = true := decide_eq_true h1
                    cases hnb : decide (NearN n a b)
                    · rw [hnb] at HNab
                      have HN2 := Aside0.mk (st_next HS.out (HSt.out.2 fun _ h => absurd h (of_decide_eq_false hnb)))
                      clear hnb h1 HTu HSt
                      go_wp2_with fail
                      go_quiet (first | exact Calls.quiet_of (HNab.out _))
                      go_wp2_with fail
                      go_roundw
                      case rel => exact ⟨ag, ys, b + 1, hbM, rfl, by go_num, ⟨HY.out.drewN nq⟩, ⟨HCr.out.drewN nq⟩, HW, HN2, HT, ⟨pw_below_drewN HBr.out nq⟩⟩
                      case measure => simp [intOf]; omega
                    · rw [hnb] at HNab
                      by_cases h2 : vb + cv < va
                      · have q2 : decide (vb + cv < va) = true := decide_eq_true h2
                        obtain ⟨t1, t2⟩ := HTu.out h1 (of_decide_eq_true hnb) h2
                        have HT1 := Aside0.mk t1
                        have HT2 : Aside0 (tot (ys.set a (vb + cv)) < tot xs) := ⟨by
                          cases ag
                          · have := (HS.out rfl).1
                            rw [← this]
                            exact t2
                          · have := HT.out rfl
                            omega⟩
                        clear hnb h1 h2 HTu HSt t1 t2
                        go_wp2_with fail
                        go_quiet (first | exact Calls.quiet_of (HNab.out _))
                        have K1 := Aside0.mk (HY.out.drewN nq)
                        have K2 := Aside0.mk (HCr.out.drewN nq)
                        have K3 := Aside0.mk (pw_below_drewN HBr.out nq)
                        have ca' : (wr.drewN nq).cell? ⟨bo + 1, a, none⟩ = some (.int .i64 cv) := ca
                        have xb' : (wr.drewN nq).cell? ⟨bo, b, none⟩ = some (.int .i64 vb) := xb
                        have xa' : (wr.drewN nq).cell? ⟨bo, a, none⟩ = some (.int .i64 va) := xa
                        clear ca xa xb
                        generalize wr.drewN nq = w5 at *
                        have fa : w5.drew.frozen? ⟨bo, a, none⟩ = false := K1.out.drew.blk.frozen a
                        have ca : w5.drew.cell? ⟨bo + 1, a, none⟩ = some (.int .i64 cv) := ca'
                        have xb : w5.drew.cell? ⟨bo, b, none⟩ = some (.int .i64 vb) := xb'
                        have xa : w5.drew.cell? ⟨bo, a, none⟩ = some (.int .i64 va) := xa'
                        go_wp2_with fail
                        go_upto_region 25 with fail
                        go_still_tail 12, (by kernel_rfl)
                        go_wp2_with fail
                        go_roundw
                        case rel => exact ⟨true, ys.set a (vb + cv), b + 1, hbM, rfl, by go_num, ⟨K1.out.drew.set a (vb + cv)⟩, ⟨K2.out.drew.far (by simp) _⟩, HT1, ⟨fun h => by cases h⟩, ⟨fun _ => HT2.out⟩, ⟨below_set2 (below_drew K3.out) (Nat.le_refl bo)⟩⟩
                        case measure => simp [intOf]; omega
                      · have q2 : decide (vb + cv < va) = false := decide_eq_false h2
                        have HN2 := Aside0.mk (st_next HS.out (HSt.out.2 fun _ _ => by omega))
                        clear hnb h1 h2 HTu HSt
                        go_wp2_with fail
                        go_quiet (first | exact Calls.quiet_of (HNab.out _))
                        go_wp2_with fail
                        go_roundw
                        case rel => exact ⟨ag, ys, b + 1, hbM, rfl, by go_num, ⟨HY.out.drewN nq⟩, ⟨HCr.out.drewN nq⟩, HW, HN2, HT, ⟨pw_below_drewN HBr.out nq⟩⟩
                        case measure => simp [intOf]; omega
                  · have q1 : decide (cv < 1000) = false := decide_eq_false h1
                    have HN2 := Aside0.mk (st_next HS.out (HSt.out.2 fun h => absurd h h1))
                    clear h1 HTu HSt
                    go_wp2_with fail
                    go_quiet (fail)
                    go_wp2_with fail
                    go_roundw
                    case rel => exact ⟨ag, ys, b + 1, hbM, rfl, by go_num, ⟨HY.out.drewN nq⟩, ⟨HCr.out.drewN nq⟩, HW, HN2, HT, ⟨pw_below_drewN HBr.out nq⟩⟩
                    case measure => simp [intOf]; omega
                · have g3 : decide ((b : Int) < (M : Int)) = false := decide_eq_false (by omega)
                  have g4 : decide (b < M) = false := decide_eq_false hbM
                  have HN2 : Aside0 (ag = false → ys = xs ∧ ∀ a', a' < a + 1 → ∀ b, b < M → St n p own emp bs xs a' b) := ⟨fun h => by
                    obtain ⟨k1, k2, k3⟩ := HS.out h
                    refine ⟨k1, fun a' ha' c hc => ?_⟩
                    rcases Nat.lt_or_ge a' a with k | k
                    · exact k2 a' k c hc
                    · obtain rfl : a' = a := by omega
                      exact k3 c (by omega)⟩
                  clear HS
                  go_wp2_with fail
                  go_roundw
                  case rel => exact ⟨ag, ys, a + 1, haM, rfl, by go_num, HY, HCr, HW, HN2, HT, HBr⟩
                  case measure => simp [intOf]; omega
            · have g1 : decide ((a : Int) < (M : Int)) = false := decide_eq_false (by omega)
              have g2 : decide (a < M) = false := decide_eq_false haM
              have HN2 : Aside0 (ag = false → ∀ a, a < M → ∀ b, b < M → St n p own emp bs ys a b) := ⟨fun h => by
                obtain ⟨k1, k2⟩ := HS.out h
                rw [k1]
                exact fun c hc => k2 c (by omega)⟩
              have HQ2 : Aside0 (0 < gO - 1 ∧ (ag = true → tot ys + 1 < gO - 1)) := ⟨by
                have h1 := HQ.out.2 (by first | rfl | trivial)
                exact ⟨by omega, fun h => by have := HT.out h; omega⟩⟩
              have HQ3 : Aside0 (gO - 1 < gO) := ⟨by have := HQ.out.1; omega⟩
              clear HS HQ
              go_wp2_with fail
              go_roundg (gO - 1)
              case measure => exact HQ3.out
              case rel => exact ⟨ag, ys, rfl, HQ2, HY, HCr, HW, HN2, HBr⟩
end Go.Proofs.YtlmgkmmdaecpdaaDoor.Im

