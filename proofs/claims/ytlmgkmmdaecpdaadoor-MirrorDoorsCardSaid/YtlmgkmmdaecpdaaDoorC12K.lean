/- Further parts of the same walk: contracts of the functions that the law reaches, each under the conditions that it states. -/
import Derived.Test.YtlmgkmmdaecpdaaDoorC12J
import Derived.Maps.OwnSet
import Derived.Maps.Own
import Derived.Maps.Views
import Derived.StringKeys
import Derived.Lib.SlBytesRow
namespace Go.Proofs.YtlmgkmmdaecpdaaDoor.Im
open Go.RowKit Go.Proofs.YtlmgkmmdaecpdaaDoorW.PrintWords Go.Proofs.YtlmgkmmdaecpdaaDoorW.PrintLast Go.Proofs.YtlmgkmmdaecpdaaDoorW.PrintMore Go.Proofs.YtlmgkmmdaecpdaaDoor.Mi
set_option linter.unusedVariables false
set_option linter.unusedSimpArgs false
structure Keep (p : Nat → Prop) (w w' : World) : Prop where
  os : w'.os = w.os
  tape : w'.tape = w.tape
  output : w'.output = w.output
  size : w.heap.size ≤ w'.heap.size
  block : ∀ i, i < w.heap.size → p i → w'.heap[i]? = w.heap[i]?
theorem Keep.refl (p : Nat → Prop) (w : World) : Keep p w w := ⟨rfl, rfl, rfl, Nat.le_refl _, fun _ _ _ => rfl⟩
theorem Keep.trans {p : Nat → Prop} {w w1 w2 : World} (h : Keep p w w1) (k : Keep p w1 w2) : Keep p w w2 :=
  ⟨k.os.trans h.os, k.tape.trans h.tape, k.output.trans h.output, Nat.le_trans h.size k.size, fun i hi hp => (k.block i (Nat.lt_of_lt_of_le hi h.size) hp).trans (h.block i hi hp)⟩
theorem Keep.of_below {p : Nat → Prop} {w w' : World} (h : Below w.heap.size w w') : Keep p w w' := ⟨h.os, h.tape, h.output, h.size, fun i hi _ => h.block i hi⟩
theorem Keep.blk {p : Nat → Prop} {w w' : World} {g : Nat} {t : TypeId} {cs : Array Value} (h : Keep p w w') (hb : Blk w g t cs) (hp : p g) : Blk w' g t cs := (h.block g hb.lt hp).trans hb
theorem Keep.below {p : Nat → Prop} {w w' : World} {B : Nat} (h : Keep p w w') (hB : B ≤ w.heap.size) (hp : ∀ i, i < B → p i) : Below B w w' := ⟨h.os, h.tape, h.output, h.size, fun i hi => h.block i (Nat.lt_of_lt_of_le hi hB) (hp i hi)⟩
theorem Keep.of_grown {p : Nat → Prop} {w w' : World} {b : Nat} (h : w.grownBy w' (some b)) (hp : ¬ p b) : Keep p w w' := ⟨h.os, h.tape, h.output, h.size, fun i hi hpi => h.block i hi (fun e => hp (by cases e; exact hpi))⟩
theorem Keep.set_ {p : Nat → Prop} (w : World) (g i : Nat) (u : Value) (hp : ¬ p g) : Keep p w (w.setCell ⟨g, i, none⟩ u) :=
  ⟨rfl, rfl, rfl, by simp [World.setCell], fun x hx hpx => Below.heap_setCell w _ _ x (fun e => hp (by rw [← show x = g from e]; exact hpx))⟩
theorem Byts.frozen {w : World} {gb m : Nat} {bs : List Int} (h : Byts w gb m bs) {i : Nat} (hi : i < m) : w.frozen? ⟨gb, i, none⟩ = false := by
  obtain ⟨cells, k, h1, h2, h3, h4⟩ := h
  simp [World.frozen?, h1]
  omega
theorem Byts.cell {w : World} {gb m : Nat} {bs : List Int} (h : Byts w gb m bs) {i : Nat} (hi : i < m) : w.cell? ⟨gb, i, none⟩ = some (.int .u8 (bs.getD i 0)) := by
  obtain ⟨cells, k, h1, h2, h3, h4⟩ := h
  have := h4 i hi
  simp [World.cell?, h1, this]
theorem Byts.set_ {w : World} {gb m : Nat} {bs : List Int} (h : Byts w gb m bs) (hl : bs.length = m) {i : Nat} (hi : i < m) (v : Int) : Byts (w.setCell ⟨gb, i, none⟩ (.int .u8 v)) gb m (bs.set i v) := by
  obtain ⟨cells, k, h1, h2, h3, h4⟩ := h
  refine ⟨cells.setIfInBounds i (.int .u8 v), k, ?_, by simp [h2], h3, fun j hj => ?_⟩
  · simp [World.setCell, Array.getElem?_modify, h1]
  · rw [Array.getElem?_setIfInBounds]
    by_cases e : i = j
    · subst e
      rw [if_pos rfl, if_pos (by omega)]
      simp [List.getD_eq_getElem?_getD, List.getElem?_set, hl, hi]
    · rw [if_neg e, h4 j hj]
      simp [List.getD_eq_getElem?_getD, List.getElem?_set, e]
theorem Byts.blk {w w' : World} {gb m : Nat} {bs : List Int} (h : Byts w gb m bs) (e : w'.heap[gb]? = w.heap[gb]?) : Byts w' gb m bs := by
  obtain ⟨cells, k, h1, h2⟩ := h
  exact ⟨cells, k, e.trans h1, h2⟩
theorem Byts.lt {w : World} {gb m : Nat} {bs : List Int} (h : Byts w gb m bs) : gb < w.heap.size := by
  obtain ⟨cells, k, h1, h2⟩ := h
  rcases Nat.lt_or_ge gb w.heap.size with h | h
  · exact h
  · rw [Array.getElem?_eq_none h] at h1; cases h1
def bl (l : List UInt8) : List Int := l.map fun b => (b.toNat : Int)
theorem bl_len (l : List UInt8) : (bl l).length = l.length := by unfold bl; rw [List.length_map]
theorem bl_set (l : List UInt8) (i : Nat) (b : UInt8) : bl (l.set i b) = (bl l).set i (b.toNat : Int) := by unfold bl; rw [List.map_set]
theorem bl_get {l : List UInt8} {i : Nat} {b : UInt8} (h : l[i]? = some b) : (bl l).getD i 0 = (b.toNat : Int) := by
  unfold bl
  simp [List.getD_eq_getElem?_getD, List.getElem?_map, h]
theorem Byts.bytes {w : World} {gb : Nat} {l : List UInt8} {m : Nat} (h : Byts w gb m (bl l)) (hl : l.length = m) : Lib.Bytes w gb 0 ⟨l.toArray⟩ := by
  intro i hi
  have hi' : i < l.length := hi
  rw [Nat.zero_add, h.cell (by omega), bl_get (List.getElem?_eq_getElem hi')]
  rfl
def nxB (l : List UInt8) : UInt8 := if l.count 111 < l.count 120 then 111 else 120
def CntOk (l : List UInt8) : Prop := l.count 120 = l.count 111 ∨ l.count 120 = l.count 111 + 1
theorem nxB_or (l : List UInt8) : nxB l = 120 ∨ nxB l = 111 := by unfold nxB; split <;> simp
theorem nx_num (l : List UInt8) : (231 : Int) - ((nxB l).toNat : Int) = ((231 - nxB l).toNat : Int) := by rcases nxB_or l with h | h <;> rw [h] <;> rfl
theorem count_dot {l : List UInt8} {i : Nat} (h : l[i]? = some 46) (a b : UInt8) (hb : b ≠ 46) : (l.set i a).count b = l.count b + (if a = b then 1 else 0) := by
  have hi : i < l.length := by
    rcases Nat.lt_or_ge i l.length with h' | h'
    · exact h'
    · rw [List.getElem?_eq_none h'] at h; cases h
  rw [List.getElem?_eq_getElem hi] at h
  have he : l[i] = 46 := Option.some.inj h
  rw [List.count_set hi, he]
  have : ((46 : UInt8) == b) = false := beq_eq_false_iff_ne.2 (Ne.symm hb)
  rw [this]
  simp
theorem count_dots {l : List UInt8} {i : Nat} (h : l[i]? = some 46) (a : UInt8) (ha : a ≠ 46) : (l.set i a).count 46 + 1 = l.count 46 := by
  have hi : i < l.length := by
    rcases Nat.lt_or_ge i l.length with h' | h'
    · exact h'
    · rw [List.getElem?_eq_none h'] at h; cases h
  rw [List.getElem?_eq_getElem hi] at h
  have he : l[i] = 46 := Option.some.inj h
  have hp : 0 < l.count 46 := List.count_pos_iff.2 (he ▸ List.getElem_mem hi)
  rw [List.count_set hi, he]
  have : (a == 46) = false := beq_eq_false_iff_ne.2 ha
  rw [this]
  simp
  omega
theorem nx_ne (l : List UInt8) : nxB l ≠ 46 := by rcases nxB_or l with h | h <;> rw [h] <;> decide
theorem cnt_set {l : List UInt8} {i : Nat} (hc : CntOk l) (h : l[i]? = some 46) : CntOk (l.set i (nxB l)) ∧ nxB (l.set i (nxB l)) = 231 - nxB l := by
  have h1 := count_dot h (nxB l) 120 (by decide)
  have h2 := count_dot h (nxB l) 111 (by decide)
  unfold CntOk nxB at *
  rcases hc with hc | hc
  · rw [if_neg (by omega)] at *
    rw [if_pos rfl] at h1
    rw [if_neg (by decide)] at h2
    rw [h1, h2, hc]
    exact ⟨.inr (by omega), by rw [if_pos (by omega)]; decide⟩
  · rw [if_pos (by omega)] at *
    rw [if_neg (by decide)] at h1
    rw [if_pos rfl] at h2
    rw [h1, h2, hc]
    exact ⟨.inl (by omega), by rw [if_neg (by omega)]; decide⟩
open Classical in
noncomputable def gvL (n : Nat) : Nat → List UInt8 → Int
  | 0, l => if winB n (bl l) = 0 then 231 - ((nxB l).toNat : Int) else winB n (bl l)
  | k + 1, l => if winB n (bl l) = 0 then (if ∃ i : Nat, l[i]? = some 46 ∧ gvL n k (l.set i (nxB l)) = ((nxB l).toNat : Int) then ((nxB l).toNat : Int) else 231 - ((nxB l).toNat : Int)) else winB n (bl l)
noncomputable def gv (n : Nat) (l : List UInt8) : Int := gvL n (l.count 46) l
theorem gv_won {n : Nat} {l : List UInt8} (h : winB n (bl l) ≠ 0) : gv n l = winB n (bl l) := by
  unfold gv
  cases l.count 46 <;> (unfold gvL; rw [if_neg h])
theorem gv_move {n : Nat} {l : List UInt8} (h : winB n (bl l) = 0) {i : Nat} (hi : l[i]? = some 46) (hg : gv n (l.set i (nxB l)) = ((nxB l).toNat : Int)) : gv n l = ((nxB l).toNat : Int) := by
  have hc := count_dots hi (nxB l) (nx_ne l)
  unfold gv at *
  rw [← hc]
  unfold gvL
  rw [if_pos h, if_pos ⟨i, hi, hg⟩]
theorem gv_no {n : Nat} {l : List UInt8} (h : winB n (bl l) = 0) (hn : ∀ i : Nat, l[i]? = some 46 → gv n (l.set i (nxB l)) ≠ ((nxB l).toNat : Int)) : gv n l = 231 - ((nxB l).toNat : Int) := by
  unfold gv at *
  cases hk : l.count 46 with
  | zero => unfold gvL; rw [if_pos h]
  | succ k =>
    unfold gvL
    rw [if_pos h, if_neg]
    rintro ⟨i, hi, hg⟩
    have hc := count_dots hi (nxB l) (nx_ne l)
    refine hn i hi ?_
    rw [show (l.set i (nxB l)).count 46 = k by omega]
    exact hg
theorem winB_cases (n : Nat) (bs : List Int) : winB n bs = 120 ∨ winB n bs = 111 ∨ winB n bs = 0 := by
  unfold winB
  by_cases h : (brO n bs 120).isSome = true
  · rw [if_pos h]; exact .inl rfl
  · rw [if_neg h]
    by_cases h2 : (brO n bs 111).isSome = true
    · rw [if_pos h2]; exact .inr (.inl rfl)
    · rw [if_neg h2]; exact .inr (.inr rfl)
theorem gv_cases (n : Nat) (l : List UInt8) : gv n l = 120 ∨ gv n l = 111 := by
  by_cases h : winB n (bl l) = 0
  · by_cases hn : ∀ i : Nat, l[i]? = some 46 → gv n (l.set i (nxB l)) ≠ ((nxB l).toNat : Int)
    · rw [gv_no h hn]
      rcases nxB_or l with e | e <;> rw [e] <;> decide
    · simp only [Classical.not_forall, Decidable.not_not] at hn
      obtain ⟨i, hi, hg⟩ := hn
      rw [gv_move h hi hg]
      rcases nxB_or l with e | e <;> rw [e] <;> decide
  · rw [gv_won h]
    rcases winB_cases n (bl l) with e | e | e
    · exact .inl e
    · exact .inr e
    · exact absurd e h
def Known (n : Nat) (D : DataW Unit) : Prop := Maps.IsMap D ∧ ∀ l : List UInt8, Maps.has D (.string l) = true → D.atKey (.string l) (.lit (.int .u8 0)) = .lit (.int .u8 (gv n l))
theorem Known.nil (n : Nat) : Known n (.map []) := ⟨⟨[], rfl⟩, fun l h => by cases h⟩
theorem Known.put {n : Nat} {D : DataW Unit} (h : Known n D) (l : List UInt8) : Known n (D.put (.string l) (.lit (.int .u8 (gv n l)))) := by
  have hk : WideAt.IsKeyLit (.string l) := by constructor
  refine ⟨?_, fun l' hl => ?_⟩
  · obtain ⟨es, rfl⟩ := h.1
    exact ⟨_, rfl⟩
  · by_cases e : l' = l
    · subst e
      rw [Maps.atKey_put_same h.1 hk]
    · have hne : (Lit.string l') ≠ .string l := fun x => e (by cases x; rfl)
      rw [Maps.has_put_other hne] at hl
      rw [Maps.atKey_put_other hne]
      exact h.2 l' hl
def tN : Nat → Nat
  | 0 => 1
  | k + 1 => 1 + 121 * tN k
end Go.Proofs.YtlmgkmmdaecpdaaDoor.Im

