/- Arguments of the laws, opened: a list of arcs. -/
import Derived.Test.YtmobefgnkiboaaaMa
import Derived.Deep.SlicePairs
namespace Go.Proofs.Ytmobefgnkiboaaa.Im
open Go.RowKit Go.ChangeShapes Go.WideShapes Go.Proofs.YtmobefgnkiboaaaW.PrintWords Go.Proofs.YtmobefgnkiboaaaW.PrintLast Go.Proofs.YtmobefgnkiboaaaW.PrintMore

theorem open_arcs {H : Type} {enc : TypeId × Value → H} {w : World} {base : Nat} {spare : Nat → Bool} {held : Bool} {fuel : Nat} {a : Option Addr} {len cap : Nat} {x : DataW H × List MemPlace}
    (h : DataW.trod enc Try.prog w base spare held fuel 22 [.slice a len cap] = some x) :
    ∃ l : List S43, len = l.length ∧ Kd.C k43 w a l.length l ∧ l.length ≤ cap := by
  rcases Go.Deep.open_slice_pairs Try.underlying22 Try.underlying43 (by kernel_rfl) rfl rfl (by kernel_rfl) (by kernel_rfl) h with ⟨hcs, _⟩ | ⟨b, len', cap', m, n, V0, V1, D0, D1, P0, P1, hcs, hb, hl, hm, hmm, hx, hi⟩
  · simp at hcs
    obtain ⟨rfl, rfl, rfl⟩ := hcs
    exact ⟨[], rfl, ⟨rfl, by simp, fun h => absurd h (by simp)⟩, Nat.le_refl _⟩
  · simp at hcs
    obtain ⟨rfl, rfl, rfl⟩ := hcs
    have hlm : len ≤ m := by rw [hmm]; split <;> omega
    have hint : ∀ i, i < m → ∃ p q : Int, V0 i = .int .i64 p ∧ V1 i = .int .i64 q := fun i him => by
      obtain ⟨_, _, t0, t1⟩ := hi i him
      obtain ⟨p, hp, _⟩ := DataW.trod_int Try.underlying3 t0
      obtain ⟨q, hq, _⟩ := DataW.trod_int Try.underlying3 t1
      exact ⟨p, q, by simpa using hp, by simpa using hq⟩
    let g : Nat → S43 := fun i => ⟨match V0 i with | .int _ p => p | _ => 0, match V1 i with | .int _ q => q | _ => 0⟩
    have hg0 : ∀ i, i < m → V0 i = .int .i64 (g i).f0 := fun i him => by
      obtain ⟨p, q, hp, hq⟩ := hint i him
      simp [g, hp]
    have hg1 : ∀ i, i < m → V1 i = .int .i64 (g i).f1 := fun i him => by
      obtain ⟨p, q, hp, hq⟩ := hint i him
      simp [g, hq]
    refine ⟨(List.range len).map g, by simp, ?_, by simpa using hl⟩
    have hll : ((List.range len).map g).length = len := by simp
    rw [hll]
    refine ⟨hll, by unfold maxLen at hm; omega, fun _ => ⟨b, rfl, fun j p hp => ?_⟩⟩
    have hj : j < len := by
      rcases Nat.lt_or_ge j len with h' | h'
      · exact h'
      · rw [List.getElem?_eq_none (by rw [hll]; exact h')] at hp; cases hp
    have hp' : p = g j := by
      rw [List.getElem?_map, List.getElem?_range hj] at hp
      simpa using hp.symm
    subst hp'
    refine ⟨_, rfl, k43_mk w (g j), fun i u hu => ?_⟩
    obtain ⟨c0, c1, _, _⟩ := hi j (by omega)
    rw [hg0 j (by omega)] at c0
    rw [hg1 j (by omega)] at c1
    match i, hu with
    | 0, hu => simp at hu; subst hu; exact c0
    | 1, hu => simp at hu; subst hu; exact c1
theorem open_nums {H : Type} {enc : TypeId × Value → H} {w : World} {base : Nat} {spare : Nat → Bool} {held : Bool} {fuel : Nat} {a : Option Addr} {len cap : Nat} {x : DataW H × List MemPlace}
    (h : DataW.trod enc Try.prog w base spare held fuel 25 [.slice a len cap] = some x) :
    ∃ l : List Int, len = l.length ∧ Kd.C (Kd.int .i64) w a l.length l ∧ l.length ≤ cap := by
  rcases open_ints Try.underlying25 Try.underlying3 (by kernel_rfl) h with ⟨hcs, _⟩ | ⟨b, len', cap', zs, hcs, hb, hl, hm, hz, hx, hcell, hwz⟩
  · simp at hcs
    obtain ⟨rfl, rfl, rfl⟩ := hcs
    exact ⟨[], rfl, ⟨rfl, by simp, fun h => absurd h (by simp)⟩, Nat.le_refl _⟩
  · simp at hcs
    obtain ⟨rfl, rfl, rfl⟩ := hcs
    have hlz : len ≤ zs.length := by rw [hz]; split <;> omega
    have hll : (zs.take len).length = len := by rw [List.length_take]; omega
    refine ⟨zs.take len, hll.symm, ?_, by rw [hll]; exact hl⟩
    rw [hll]
    refine ⟨hll, by unfold maxLen at hm; omega, fun _ => ⟨b, rfl, fun j p hp => ?_⟩⟩
    have hj : j < len := by
      rcases Nat.lt_or_ge j len with h' | h'
      · exact h'
      · rw [List.getElem?_eq_none (by rw [hll]; exact h')] at hp; cases hp
    have hp' : p = zs.getD j 0 := by
      rw [List.getElem?_take_of_lt hj] at hp
      rw [List.getD_eq_getElem?_getD, hp]; rfl
    subst hp'
    refine ⟨_, rfl, rfl, fun i u hu => ?_⟩
    match i, hu with
    | 0, hu =>
      simp at hu; subst hu
      have := hcell j (by omega)
      rw [Nat.add_zero, show j * (Kd.int IntKind.i64).sz = j from Nat.mul_one j]
      exact this
end Go.Proofs.Ytmobefgnkiboaaa.Im
