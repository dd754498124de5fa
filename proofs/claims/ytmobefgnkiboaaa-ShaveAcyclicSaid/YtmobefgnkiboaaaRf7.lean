/- The least ranking. -/
import Derived.Test.YtmobefgnkiboaaaRf6
namespace Go.Proofs.Ytmobefgnkiboaaa.Im
open Go.RowKit Go.Proofs.YtmobefgnkiboaaaW.PrintWords Go.Proofs.YtmobefgnkiboaaaW.PrintLast Go.Proofs.YtmobefgnkiboaaaW.PrintMore
set_option linter.unusedVariables false

theorem there_iff (m : Nat) (ranks : List Nat) (x : Nat) : thereX m ranks x = true ↔ ∃ b, b < ranks.length ∧ m.testBit b = true ∧ ranks.getD b 0 = x := by
  unfold thereX
  rw [anyF_iff]
  constructor
  · rintro ⟨b, _, h1, h2⟩
    unfold hasX at h2
    rw [Bool.and_eq_true, beq_iff_eq] at h2
    exact ⟨b, by omega, h2.1, h2.2⟩
  · rintro ⟨b, h1, h2, h3⟩
    exact ⟨b, Nat.zero_le _, by omega, by unfold hasX; rw [h2, h3]; simp⟩
theorem lackF_filter (p : Nat → Bool) : ∀ d i, lackF p d i = ((List.range' i d).filter fun x => !p x).length
  | 0, _ => rfl
  | d + 1, i => by
    rw [lackF, lackF_filter p d (i + 1), List.range'_succ, List.filter_cons]
    cases p i
    · simp; omega
    · simp
theorem lackF_none {p : Nat → Bool} {d : Nat} (h : lackF p d 0 = 0) : ∀ y, y < d → p y = true := by
  rw [lackF_filter, List.length_eq_zero_iff, List.filter_eq_nil_iff] at h
  intro y hy
  have := h y (by rw [List.mem_range'_1]; omega)
  simpa using this
theorem memL_zero : memL 0 = [] := by decide
theorem shr_zero {n m : Nat} (h : m < 2 ^ n) : m >>> n = 0 := by rw [Nat.shiftRight_eq_div_pow]; exact Nat.div_eq_of_lt h
def fullRk (n : Nat) (o ranks : List Nat) : Prop := ranks.length = n ∧ (∀ x ∈ ranks, x ≤ n) ∧ possB o ranks = true
theorem getD_le {ranks : List Nat} {n : Nat} (h : ∀ x ∈ ranks, x ≤ n) (a : Nat) : ranks.getD a 0 ≤ n := by
  rw [List.getD_eq_getElem?_getD]
  rcases Nat.lt_or_ge a ranks.length with h1 | h1
  · rw [List.getElem?_eq_getElem h1]; exact h _ (List.getElem_mem h1)
  · rw [List.getElem?_eq_none h1]; exact Nat.zero_le _
theorem Okt.lt12 {n : Nat} {o : List Nat} (ok : Okt n o) (a : Nat) : o.getD a 0 < 4096 := Nat.lt_of_lt_of_le (ok.lt _) (Nat.pow_le_pow_right (by decide) ok.n12 : 2 ^ n ≤ 2 ^ 12)
theorem posB_full {n : Nat} {o ranks : List Nat} (ok : Okt n o) (hl : ranks.length = n) (hr : ∀ x ∈ ranks, x ≤ n) (a : Nat) :
    posB o ranks a = true ↔ (∀ y, y < ranks.getD a 0 → thereX (o.getD a 0) ranks y = true) ∧ thereX (o.getD a 0) ranks (ranks.getD a 0) = false := by
  have n12 := ok.n12
  have hra := getD_le hr a
  rw [posB_eq o ranks a (by omega) (by omega) (ok.lt12 a), hl, shr_zero (ok.lt a), memL_zero, Bool.and_eq_true, decide_eq_true_eq, Bool.not_eq_true']
  constructor
  · rintro ⟨h1, h2⟩
    exact ⟨lackF_none (Nat.le_zero.1 h2), h1⟩
  · rintro ⟨h1, h2⟩
    exact ⟨h2, Nat.le_of_eq (lackF_zero _ _ (fun x _ h3 => h1 x (by omega)))⟩
theorem possB_iff (o ranks : List Nat) : possB o ranks = true ↔ ∀ a, a < ranks.length → posB o ranks a = true := by
  unfold possB
  rw [List.all_eq_true]
  exact ⟨fun h a ha => h a (List.mem_range.2 ha), fun h a ha => h a (List.mem_range.1 ha)⟩
theorem okR_iff {n : Nat} {o ranks : List Nat} (ok : Okt n o) (hl : ranks.length = n) (hr : ∀ x ∈ ranks, x ≤ n) (a : Nat) : okR n o (ints ranks) a ↔ posB o ranks a = true := by
  rw [posB_full ok hl hr a]
  have hra := getD_le hr a
  unfold okR hasI'
  rw [rd_ints, Int.toNat_natCast]
  have key : ∀ y : Nat, (∃ b, b < n ∧ (o.getD a 0).testBit b = true ∧ rd (ints ranks) b = (y : Int)) ↔ thereX (o.getD a 0) ranks y = true := fun y => by
    rw [there_iff, hl]
    constructor
    · rintro ⟨b, h1, h2, h3⟩; rw [rd_ints] at h3; exact ⟨b, h1, h2, by omega⟩
    · rintro ⟨b, h1, h2, h3⟩; exact ⟨b, h1, h2, by rw [rd_ints, h3]⟩
  constructor
  · rintro ⟨_, _, h1, h2⟩
    refine ⟨fun y hy => (key y).1 (h1 y (by omega)), ?_⟩
    rw [key, Bool.not_eq_true] at h2
    exact h2
  · rintro ⟨h1, h2⟩
    refine ⟨by omega, by omega, fun y hy => (key y).2 (h1 y (by omega)), ?_⟩
    rw [key, h2]; simp
theorem isRk_iff {n : Int} {l : List S43} (he : ofE n l = 0) (rs : List Int) : isRk n l rs ↔ ∃ ranks, rs = ints ranks ∧ fullRk n.toNat (townO l) ranks := by
  have ok := okt_of he
  have hn := (ofE_ok he).1
  constructor
  · rintro ⟨_, h1, h2⟩
    have e : rs = ints (rs.map Int.toNat) := by
      apply List.ext_getElem
      · simp [ints]
      · intro i h3 h4
        have := (h2 i (by omega)).1
        unfold rd at this
        rw [Int.toNat_natCast, List.getD_eq_getElem?_getD, List.getElem?_eq_getElem h3, Option.getD_some] at this
        simp [ints]; omega
    have hl : (rs.map Int.toNat).length = n.toNat := by rw [List.length_map]; omega
    have hr : ∀ x ∈ rs.map Int.toNat, x ≤ n.toNat := fun x hx => by
      rw [List.mem_map] at hx
      obtain ⟨z, hz, rfl⟩ := hx
      obtain ⟨i, hi, rfl⟩ := List.getElem_of_mem hz
      have := (h2 i (by omega)).2.1
      unfold rd at this
      rw [Int.toNat_natCast, List.getD_eq_getElem?_getD, List.getElem?_eq_getElem hi, Option.getD_some] at this
      omega
    refine ⟨rs.map Int.toNat, e, hl, hr, (possB_iff _ _).2 fun a ha => ?_⟩
    rw [← okR_iff ok hl hr a, ← e]
    exact h2 a (by omega)
  · rintro ⟨ranks, rfl, h1, h2, h3⟩
    refine ⟨he, by rw [ints_length]; omega, fun a ha => (okR_iff ok h1 h2 a).2 ((possB_iff _ _).1 h3 a (by omega))⟩

theorem getD_left (p s : List Nat) (a : Nat) (h : a < p.length) : (p ++ s).getD a 0 = p.getD a 0 := by
  simp [List.getD_eq_getElem?_getD, List.getElem?_append_left h]
theorem there_more {m : Nat} {p s : List Nat} {x : Nat} (h : thereX m p x = true) : thereX m (p ++ s) x = true := by
  rw [there_iff] at h ⊢
  obtain ⟨b, h1, h2, h3⟩ := h
  exact ⟨b, by rw [List.length_append]; omega, h2, by rw [getD_left p s b h1]; exact h3⟩
theorem prefix_pos {n : Nat} {o : List Nat} (ok : Okt n o) (p s : List Nat) (h : fullRk n o (p ++ s)) : possB o p = true := by
  obtain ⟨hl, hr, hp⟩ := h
  have n12 := ok.n12
  rw [possB_iff] at hp ⊢
  intro a ha
  rw [List.length_append] at hl
  have hf := (posB_full ok (by rw [List.length_append]; exact hl) hr a).1 (hp a (by rw [List.length_append]; omega))
  rw [getD_left p s a ha] at hf
  have hra : p.getD a 0 ≤ n := by rw [← getD_left p s a ha]; exact getD_le hr a
  rw [posB_eq o p a (by omega) (by omega) (ok.lt12 a), Bool.and_eq_true, decide_eq_true_eq, Bool.not_eq_true']
  refine ⟨?_, ?_⟩
  · cases ht : thereX (o.getD a 0) p (p.getD a 0) with
    | false => rfl
    | true => rw [there_more ht] at hf; exact absurd hf.2 (by simp)
  · rw [lackF_filter]
    have := nodup_len (l1 := (List.range' 0 (p.getD a 0)).filter fun x => !thereX (o.getD a 0) p x) (l2 := (memL (o.getD a 0 >>> p.length)).map fun b => (p ++ s).getD (b + p.length) 0)
      ((List.nodup_range').filter _) (fun x hx => by
        rw [List.mem_filter, List.mem_range'_1] at hx
        obtain ⟨hx1, hx2⟩ := hx
        obtain ⟨b, h1, h2, h3⟩ := (there_iff _ _ _).1 (hf.1 x (by omega))
        have hb : p.length ≤ b := by
          rcases Nat.lt_or_ge b p.length with h4 | h4
          · have : thereX (o.getD a 0) p x = true := (there_iff _ _ _).2 ⟨b, h4, h2, by rw [← getD_left p s b h4]; exact h3⟩
            rw [this] at hx2; simp at hx2
          · exact h4
        rw [List.length_append] at h1
        rw [List.mem_map]
        refine ⟨b - p.length, (memL_mem _ _).2 ⟨by omega, ?_⟩, ?_⟩
        · rw [Nat.testBit_shiftRight, Nat.add_sub_cancel' hb]; exact h2
        · rw [Nat.sub_add_cancel hb]; exact h3)
    rwa [List.length_map] at this
theorem rank_le {n : Nat} {o ranks : List Nat} (ok : Okt n o) (h : fullRk n o ranks) (a : Nat) (ha : a < n) : ranks.getD a 0 ≤ (memL (o.getD a 0)).length := by
  obtain ⟨hl, hr, hp⟩ := h
  have n12 := ok.n12
  have hf := (posB_full ok hl hr a).1 ((possB_iff _ _).1 hp a (by omega))
  have := nodup_len (l1 := List.range (ranks.getD a 0)) (l2 := (memL (o.getD a 0)).map fun b => ranks.getD b 0) List.nodup_range (fun x hx => by
    obtain ⟨b, h1, h2, h3⟩ := (there_iff _ _ _).1 (hf.1 x (List.mem_range.1 hx))
    rw [List.mem_map]
    exact ⟨b, (memL_mem _ _).2 ⟨by omega, h2⟩, h3⟩)
  simpa using this
theorem memL_le {n m : Nat} (hn : n ≤ 12) (h : m < 2 ^ n) : (memL m).length ≤ n := by
  have := nodup_len (l1 := memL m) (l2 := List.range n) (by
    suffices ∀ d i, (memF m d i).Nodup ∧ ∀ x ∈ memF m d i, i ≤ x from (this 12 0).1
    intro d
    induction d with
    | zero => intro i; simp [memF]
    | succ d ih =>
      intro i
      rw [memF]
      obtain ⟨h1, h2⟩ := ih (i + 1)
      split
      · refine ⟨List.nodup_cons.2 ⟨fun hx => ?_, h1⟩, fun x hx => ?_⟩
        · have := h2 i hx; omega
        · rcases List.mem_cons.1 hx with rfl | hx
          · exact Nat.le_refl _
          · have := h2 x hx; omega
      · exact ⟨h1, fun x hx => by have := h2 x hx; omega⟩) (fun x hx => by
    rw [memL_mem] at hx
    rw [List.mem_range]
    rcases Nat.lt_or_ge x n with h1 | h1
    · exact h1
    · rw [Nat.testBit_lt_two_pow (Nat.lt_of_lt_of_le h (Nat.pow_le_pow_right (by decide) h1))] at hx
      simp at hx)
  simpa using this
theorem rankF_ext {o : List Nat} : ∀ (d : Nat) (p r : List Nat), rankF o d p = some r → ∃ s, r = p ++ s
  | 0, p, r, h => by
    rw [rankF] at h
    split at h
    · cases h; exact ⟨[], by simp⟩
    · cases h
  | d + 1, p, r, h => by
    rw [rankF] at h
    obtain ⟨x, _, h1⟩ := List.exists_of_findSome?_eq_some h
    split at h1
    · obtain ⟨s, rfl⟩ := rankF_ext d _ r h1
      exact ⟨x :: s, by simp⟩
    · cases h1
theorem findSome_le {N x : Nat} {f : Nat → Option (List Nat)} {r0 : List Nat} (hx : x < N) (h : f x = some r0) : ∃ y r, y ≤ x ∧ f y = some r ∧ (List.range N).findSome? f = some r := by
  have e : List.range N = List.range x ++ x :: List.range' (x + 1) (N - x - 1) := by
    rw [List.range_eq_range', List.range_eq_range', ← List.range'_succ, show N - x - 1 + 1 = N - x by omega]
    have := List.range'_append_1 (s := 0) (m := x) (n := N - x)
    rw [Nat.zero_add, show x + (N - x) = N by omega] at this
    exact this.symm
  cases hf : (List.range x).findSome? f with
  | some r =>
    obtain ⟨y, hy, hy2⟩ := List.exists_of_findSome?_eq_some hf
    exact ⟨y, r, by have := List.mem_range.1 hy; omega, hy2, by rw [e, List.findSome?_append, hf]; rfl⟩
  | none => exact ⟨x, r0, Nat.le_refl _, h, by rw [e, List.findSome?_append, hf, List.findSome?_cons, h]; rfl⟩
theorem rankF_least {n : Nat} {o : List Nat} (ok : Okt n o) : ∀ (d : Nat) (p s' : List Nat), fullRk n o (p ++ s') → p.length + d = n → ∃ s, rankF o d p = some (p ++ s) ∧ lessB (ints s') (ints s) = false
  | 0, p, s', h, hd => by
    have hl := h.1
    rw [List.length_append] at hl
    have hs : s' = [] := List.eq_nil_of_length_eq_zero (by omega)
    subst hs
    have := prefix_pos ok p [] h
    exact ⟨[], by rw [rankF, if_pos this]; simp, rfl⟩
  | d + 1, p, s', h, hd => by
    have hl := h.1
    rw [List.length_append] at hl
    match s', hl with
    | [], hl => simp at hl; omega
    | x :: t, hl =>
      have hx := rank_le ok h p.length (by omega)
      have hx1 : (p ++ x :: t).getD p.length 0 = x := by simp [List.getD_eq_getElem?_getD]
      rw [hx1] at hx
      have h' : fullRk n o ((p ++ [x]) ++ t) := by rw [List.append_assoc]; exact h
      have hpp := prefix_pos ok (p ++ [x]) t h'
      obtain ⟨s, hs, hs2⟩ := rankF_least ok d (p ++ [x]) t h' (by rw [List.length_append]; simp; omega)
      obtain ⟨y, r, hy, hfy, hall⟩ := findSome_le (N := (memL (o.getD p.length 0)).length + 1) (f := fun r => if possB o (p ++ [r]) then rankF o d (p ++ [r]) else none) (x := x) (r0 := p ++ [x] ++ s) (by omega) (by simp only [hpp, if_true]; exact hs)
      rw [rankF, hall]
      rcases Nat.lt_or_ge y x with h1 | h1
      · split at hfy
        · obtain ⟨s2, rfl⟩ := rankF_ext d _ _ hfy
          refine ⟨y :: s2, by simp, ?_⟩
          show lessB ((x : Int) :: ints t) ((y : Int) :: ints s2) = false
          rw [lessB, if_neg (by omega)]
          exact decide_eq_false (by omega)
        · cases hfy
      · obtain rfl : y = x := by omega
        simp only [hpp, if_true] at hfy
        rw [hs] at hfy
        cases hfy
        refine ⟨y :: s, by simp, ?_⟩
        show lessB ((y : Int) :: ints t) ((y : Int) :: ints s) = false
        rw [lessB, if_pos rfl]
        exact hs2
theorem rankF_full {n : Nat} {o : List Nat} (ok : Okt n o) : ∀ (d : Nat) (p r : List Nat), p.length + d = n → (∀ x ∈ p, x ≤ n) → rankF o d p = some r → fullRk n o r
  | 0, p, r, hd, hp, h => by
    rw [rankF] at h
    split at h
    · rename_i hb
      cases h; exact ⟨by omega, hp, hb⟩
    · cases h
  | d + 1, p, r, hd, hp, h => by
    rw [rankF] at h
    obtain ⟨x, hx, h1⟩ := List.exists_of_findSome?_eq_some h
    split at h1
    · refine rankF_full ok d _ r (by rw [List.length_append]; simp; omega) (fun z hz => ?_) h1
      rcases List.mem_append.1 hz with hz | hz
      · exact hp z hz
      · rw [List.mem_singleton.1 hz]
        have := memL_le ok.n12 (ok.lt p.length)
        have := List.mem_range.1 hx
        omega
    · cases h1
end Go.Proofs.Ytmobefgnkiboaaa.Im
