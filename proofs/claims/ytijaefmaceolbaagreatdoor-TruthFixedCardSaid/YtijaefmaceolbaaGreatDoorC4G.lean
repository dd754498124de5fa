/- Further parts of the same walk: contracts of the functions that the law reaches, each under the conditions that it states. -/
import Derived.Test.YtijaefmaceolbaaGreatDoorC4F
namespace Go.Proofs.YtijaefmaceolbaaGreatDoor.Im
open Go.RowKit Go.Proofs.YtijaefmaceolbaaGreatDoorW.PrintWords Go.Proofs.YtijaefmaceolbaaGreatDoorW.PrintLast Go.Proofs.YtijaefmaceolbaaGreatDoorW.PrintMore Go.Proofs.YtijaefmaceolbaaGreatDoor.Tr
set_option linter.unusedVariables false
set_option linter.unusedSimpArgs false
theorem j2_and (a b : T3) (m : Nat) (l : List SNd) : pomaderef01_value.j2 (m + 4) (b3 a) (b3 b) 48 49 38 l = some (b3 (and3 a b)) := by
  rw [pomaderef01_value.j2, if_neg (by decide), pomaderef01_value.j3, if_neg (by simp), if_neg (by decide), pomaderef01_value.j4, if_neg (by simp), if_neg (by decide)]
  rcases a with _ | (_ | _) <;> rcases b with _ | (_ | _) <;> rfl
theorem j2_or (a b : T3) (m : Nat) (l : List SNd) : pomaderef01_value.j2 (m + 4) (b3 a) (b3 b) 49 48 124 l = some (b3 (or3 a b)) := by
  rw [pomaderef01_value.j2, if_neg (by decide), pomaderef01_value.j3, if_neg (by simp), if_neg (by decide), pomaderef01_value.j4, if_neg (by simp), if_neg (by decide)]
  rcases a with _ | (_ | _) <;> rcases b with _ | (_ | _) <;> rfl
theorem j2_eq (a b : T3) (m : Nat) (l : List SNd) : pomaderef01_value.j2 (m + 4) (b3 a) (b3 b) 48 49 61 l = some (b3 (eq3 a b)) := by
  rcases a with _ | (_ | _) <;> rcases b with _ | (_ | _) <;> rfl
theorem not_g (c : T3) : (if b3 c = 63 then some (b3 c) else some ((97 - b3 c) % 256)) = some (b3 (not3 c)) := by
  rcases c with _ | (_ | _) <;> rfl
theorem value_g (n : Nat) (hn : n ≤ 10) (v : List T3) (hv : v.length = n) : ∀ (f : Fm), f.low n → Gives (fun k => pomaderef01_value.f k (ndF f).f0 (ndF f).f1 (strV v)) (b3 (ev (getV v) f))
  | .con b, _ => ⟨2, fun k hk => by
      obtain ⟨m, rfl⟩ : ∃ m, k = m + 2 := ⟨k - 2, by omega⟩
      cases b <;> rfl⟩
  | .lt i, h => ⟨3, fun k hk => by
      obtain ⟨m, rfl⟩ : ∃ m, k = m + 3 := ⟨k - 3, by omega⟩
      have hi : i < n := h
      show pomaderef01_value.f (m + 3) (97 + (i : Int)) [] (strV v) = _
      have e1 : ((97 + (i : Int)) == 49) = false := beq_eq_false_iff_ne.2 (by omega)
      have e2 : ((97 + (i : Int)) == 61) = false := beq_eq_false_iff_ne.2 (by omega)
      have e3 : (97 + (i : Int) - 97) % 256 = (i : Int) := by omega
      rw [pomaderef01_value.f, if_neg (by omega), e1, pomaderef01_value.j0, if_neg (by simp), if_neg (by omega), if_neg (by omega), if_neg (by omega), e2, pomaderef01_value.j1, if_neg (by simp), e3, if_pos (by omega), if_pos (by rw [strV_size]; omega), bt_strV v i (by omega)]
      rfl⟩
  | .neg f, h => by
    obtain ⟨k0, h0⟩ := value_g n hn v hv f h
    refine ⟨k0 + 2, fun k hk => ?_⟩
    obtain ⟨m, rfl⟩ : ∃ m, k = m + 2 := ⟨k - 2, by omega⟩
    show pomaderef01_value.f (m + 2) 33 [ndF f] (strV v) = _
    have e1 : ((33 : Int) == 49) = false := rfl
    have e2 : rd_TNd [ndF f] 0 = ndF f := rfl
    rw [pomaderef01_value.f, if_neg (by decide), e1, pomaderef01_value.j0, if_neg (by simp), if_pos rfl, if_pos (by simp), e2, show pomaderef01_value.f m (ndF f).f0 (ndF f).f1 (strV v) = _ from h0 m (by omega)]
    exact not_g _
  | .bin o l r, h => by
    obtain ⟨k0, h0⟩ := value_g n hn v hv l h.1
    obtain ⟨k1, h1⟩ := value_g n hn v hv r h.2
    refine ⟨k0 + k1 + 7, fun k hk => ?_⟩
    obtain ⟨m, rfl⟩ : ∃ m, k = m + 7 := ⟨k - 7, by omega⟩
    have e2 : rd_TNd [ndF l, ndF r] 0 = ndF l := rfl
    have e3 : rd_TNd [ndF l, ndF r] 1 = ndF r := rfl
    have hl0 : pomaderef01_value.f (m + 4) (ndF l).f0 (ndF l).f1 (strV v) = _ := h0 (m + 4) (by omega)
    have hr0 : pomaderef01_value.f (m + 4) (ndF r).f0 (ndF r).f1 (strV v) = _ := h1 (m + 4) (by omega)
    have key : ∀ o' : Int, pomaderef01_value.j1 (m + 5) (strV v) true o' [ndF l, ndF r] = if o' = 124 then pomaderef01_value.j2 (m + 4) (b3 (ev (getV v) l)) (b3 (ev (getV v) r)) 49 48 o' [ndF l, ndF r] else pomaderef01_value.j2 (m + 4) (b3 (ev (getV v) l)) (b3 (ev (getV v) r)) 48 49 o' [ndF l, ndF r] := fun o' => by
      rw [pomaderef01_value.j1, if_pos rfl, if_pos (by simp), e2, hl0, Option.bind_some, if_pos (by simp), e3, hr0, Option.bind_some]
    cases o with
    | and =>
      show pomaderef01_value.f (m + 7) 38 [ndF l, ndF r] (strV v) = some (b3 (and3 _ _))
      have e1 : ((38 : Int) == 49) = false := rfl
      have e4 : ((38 : Int) == 38) = true := rfl
      rw [pomaderef01_value.f, if_neg (by decide), e1, pomaderef01_value.j0, if_neg (by simp), if_neg (by decide), if_pos rfl, e4, key, if_neg (by decide), j2_and]
    | or =>
      show pomaderef01_value.f (m + 7) 124 [ndF l, ndF r] (strV v) = some (b3 (or3 _ _))
      have e1 : ((124 : Int) == 49) = false := rfl
      have e4 : ((124 : Int) == 124) = true := rfl
      rw [pomaderef01_value.f, if_neg (by decide), e1, pomaderef01_value.j0, if_neg (by simp), if_neg (by decide), if_neg (by decide), if_pos rfl, e4, key, if_pos rfl, j2_or]
    | eq =>
      show pomaderef01_value.f (m + 7) 61 [ndF l, ndF r] (strV v) = some (b3 (eq3 _ _))
      have e1 : ((61 : Int) == 49) = false := rfl
      have e4 : ((61 : Int) == 61) = true := rfl
      rw [pomaderef01_value.f, if_neg (by decide), e1, pomaderef01_value.j0, if_neg (by simp), if_neg (by decide), if_neg (by decide), if_neg (by decide), e4, key, if_neg (by decide), j2_eq]
theorem rd_ndF (fs : List Fm) (i : Nat) (h : i < fs.length) : rd_TNd (fs.map ndF) (i : Int) = ndF (fs.getD i (.con false)) := by
  simp [rd_TNd, h]
theorem values_l0 {n : Nat} {fs : List Fm} (S : Tr.Sys n fs) {v : List T3} (hv : v.length = n) : ∀ (d i : Nat), i + d = n → Gives (fun k => pomaderef01_values.l0 k (fs.map ndF) (strV v) (nxtX fs v i) i) (strV (nextV fs v))
  | 0, i, h => Gives.now fun k => by
    have hi : i = fs.length := by rw [S.len]; omega
    simp only [pomaderef01_values.l0]
    rw [if_neg (by rw [List.length_map]; omega), hi, nxtX_all]
  | d + 1, i, h => by
    have hi : i < fs.length := by rw [S.len]; omega
    refine (values_l0 S hv d (i + 1) (by omega)).step2 (value_g n S.n10 v hv (fs.getD i (.con false)) (S.low _ (by simp [hi]))) fun k hk hk2 => ?_
    simp only [pomaderef01_values.l0]
    rw [if_pos (by rw [List.length_map]; omega), if_pos (by omega), rd_ndF fs i hi, hk2, Option.bind_some, if_pos (by rw [nxtX_len (by omega)]; omega), wr_succ i (by have := S.n10; have := S.len; omega), Int.toNat_natCast]
    rw [show (nxtX fs v i).set i (b3 (ev (getV v) (fs.getD i (.con false)))) = nxtX fs v (i + 1) from nxtX_set hi, hk]
theorem values_g {n : Nat} {fs : List Fm} (S : Tr.Sys n fs) {v : List T3} (hv : v.length = n) : Gives (fun k => pomaderef01_values.f k (fs.map ndF) (strV v)) (strV (nextV fs v)) :=
  (values_l0 S hv n 0 (by omega)).map fun k hk => by
    simp only [pomaderef01_values.f]
    rw [if_pos (by omega), if_pos (by rw [Int.toNat_natCast, List.length_map, S.len]; have := S.n10; omega), Int.toNat_natCast, List.length_map, ← nxtX_zero fs v]
    exact hk
end Go.Proofs.YtijaefmaceolbaaGreatDoor.Im

namespace Go.Proofs.YtijaefmaceolbaaGreatDoor.Im
open Go.RowKit Go.Proofs.YtijaefmaceolbaaGreatDoorW.PrintWords Go.Proofs.YtijaefmaceolbaaGreatDoorW.PrintLast Go.Proofs.YtijaefmaceolbaaGreatDoorW.PrintMore Go.Proofs.YtijaefmaceolbaaGreatDoor.Tr
set_option linter.unusedVariables false
set_option linter.unusedSimpArgs false
def chrs : ByteArray := ⟨#[48, 49, 63]⟩
def DigB (B : List T3) : Prop := 0 < B.length ∧ B.length ≤ 3 ∧ ∀ r, r < B.length → bt chrs (r : Int) = b3 (B.getD r none)
theorem dig3 : DigB base3 := ⟨by decide, by decide, fun r hr => by
  have : r = 0 ∨ r = 1 ∨ r = 2 := by have : r < 3 := hr; omega
  rcases this with rfl | rfl | rfl <;> rfl⟩
theorem wr_mid (d : Nat) (c : T3) (tl : List T3) : (List.replicate (d + 1) 0 ++ tl.map b3).set d (b3 c) = List.replicate d 0 ++ (c :: tl).map b3 := by
  have e : List.replicate (d + 1) (0 : Int) = List.replicate d 0 ++ [0] := by rw [List.replicate_succ']
  rw [e, List.append_assoc, List.set_append_right _ _ (by simp)]
  simp
theorem written_l0 {B : List T3} (hB : DigB B) : ∀ (d x : Nat) (tl : List T3), x ≤ 1000000000 → d ≤ 10 → Gives (fun k => pomaderef01_written.l0 k x B.length (List.replicate d 0 ++ tl.map b3) ((d : Int) - 1)) (strV (wrB B d x ++ tl))
  | 0, x, tl, hx, hd => Gives.now fun k => by
    simp only [pomaderef01_written.l0]
    rw [if_neg (by omega)]
    show some (strOfNums (tl.map b3)) = _
    rw [strOf_b3]
    rfl
  | d + 1, x, tl, hx, hd => by
    obtain ⟨hb0, hb3, hbt⟩ := hB
    have hlt := Nat.mod_lt x hb0
    have ih := written_l0 ⟨hb0, hb3, hbt⟩ d (x / B.length) (B.getD (x % B.length) none :: tl) (Nat.le_trans (Nat.div_le_self _ _) hx) (by omega)
    have e0 : wrB B (d + 1) x ++ tl = wrB B d (x / B.length) ++ B.getD (x % B.length) none :: tl := by rw [wrB, List.append_assoc]; rfl
    rw [e0]
    have e1 : Int.tmod (x : Int) (B.length : Int) = ((x % B.length : Nat) : Int) := by rw [Int.ofNat_tmod]
    have e2 : wrap64 (Int.tdiv (x : Int) (B.length : Int)) = ((x / B.length : Nat) : Int) := by
      rw [← Int.ofNat_tdiv]
      have := Nat.div_le_self x B.length
      exact wr62' _ (by omega)
    have e3 : wrap64 ((((d + 1 : Nat) : Int) - 1) - 1) = (d : Int) - 1 := by unfold wrap64; omega
    refine ih.step fun k hk => ?_
    simp only [pomaderef01_written.l0]
    rw [if_pos (by omega), if_neg (by omega), e1, if_pos (by omega), if_pos (by omega), if_pos (by omega), if_pos (by simp; omega), e2, e3]
    have e4 : bt (⟨#[48, 49, 63]⟩ : ByteArray) ((x % B.length : Nat) : Int) = b3 (B.getD (x % B.length) none) := hbt _ hlt
    have e5 : (((d + 1 : Nat) : Int) - 1).toNat = d := by omega
    rw [e4, e5, wr_mid, hk]
theorem written_g {B : List T3} (hB : DigB B) (n x : Nat) (hn : n ≤ 10) (hx : x ≤ 1000000000) : Gives (fun k => pomaderef01_written.f k x n B.length) (strV (wrB B n x)) := by
  have := written_l0 hB n x [] hx hn
  rw [List.append_nil] at this
  refine this.map fun k hk => ?_
  simp only [pomaderef01_written.f]
  have e : wrap64 ((n : Int) - 1) = (n : Int) - 1 := by unfold wrap64; omega
  rw [if_pos (by omega), if_pos (by omega), e, Int.toNat_natCast]
  simpa using hk
theorem strV_list (v : List T3) : (strV v).toList = v.map byte3 := ByteArray.toList_mk _
theorem byte3_inj {a b : T3} (h : byte3 a = byte3 b) : a = b := by
  rcases a with _ | (_ | _) <;> rcases b with _ | (_ | _) <;> first | rfl | (exact absurd h (by decide))
theorem strV_eq {a b : List T3} (h : (strV a).toList = (strV b).toList) : a = b := by
  rw [strV_list, strV_list] at h
  exact (List.map_inj_right (fun x y h => byte3_inj h)).1 h
end Go.Proofs.YtijaefmaceolbaaGreatDoor.Im

namespace Go.Proofs.YtijaefmaceolbaaGreatDoor.Im
open Go.RowKit Go.Proofs.YtijaefmaceolbaaGreatDoorW.PrintWords Go.Proofs.YtijaefmaceolbaaGreatDoorW.PrintLast Go.Proofs.YtijaefmaceolbaaGreatDoorW.PrintMore Go.Proofs.YtijaefmaceolbaaGreatDoor.Tr
set_option linter.unusedVariables false
set_option linter.unusedSimpArgs false
theorem FormP.open {g : Nat} {s : List UInt8} {many : Nat} {w : World} {r : Option (Fm × List UInt8)} {e : Ending} {w' : World} (h : FormP g s many w r e w') :
    ∃ (x : SNd) (A : Option Addr) (n c : Nat) (p : Nat) (bad : Bool), e = .returned (.agg #[.int .u8 x.f0, .slice A n c]) ∧ kNd.M w' w.heap.size (fun _ => True) x [.int .u8 x.f0, .slice A n c] ∧ RB g s many p bad w' ∧ p ≤ s.length ∧ Keep (fun i => i ≠ g) w w' ∧ RdOk s p bad x r := by
  obtain ⟨x, v, p, bad, he, hM, hr, hp, hk, hm⟩ := h
  obtain ⟨v1, e1, hR⟩ := kNd_openM hM
  injection e1 with _ e1
  injection e1 with e1 _
  subst e1
  obtain ⟨A, c, rfl⟩ := Kd.R_slice hR
  exact ⟨x, A, _, c, p, bad, he, hM, hr, hp, hk, hm⟩
theorem nd_lit1 {W : World} {b : Nat} {x : SNd} {cs : List Value} (o : Int) (h : kNd.M W b (fun _ => True) x cs) (hb : b ≤ W.heap.size) :
    kNd.M (W.alloc (.cells cs.toArray 99)) b (fun _ => True) ⟨o, [x]⟩ [.int .u8 o, .slice (some ⟨W.heap.size, 0, none⟩) 1 1] := by
  refine kNd_mkM _ _ _ ⟨o, [x]⟩ (v1 := .slice (some ⟨W.heap.size, 0, none⟩) 1 1) ⟨fun _ _ => trivial, OwnRow.lit W b (inner := cs) ?_ hb (by simp)⟩
  have h1 := kNd.M_mono (ok' := fun k => True ∧ some k ≠ (Value.slice (some ⟨W.heap.size, 0, none⟩) 1 1).ownBlock) (fun k hk => ⟨trivial, by have := hk.2.2.1; simp [Value.ownBlock]; omega⟩) (kNd.M_bound h)
  have h2 := Kd.M_below h1 (below_alloc (Below.refl _ _) (.cells cs.toArray 99))
  have hl := kNd.K_len (kNd.K_of_M h2)
  have := (Reps.none (kNd.M (W.alloc (.cells cs.toArray 99)) b (fun k => True ∧ some k ≠ (Value.slice (some ⟨W.heap.size, 0, none⟩) 1 1).ownBlock)) kNd.sz).snoc h2 hl
  simpa using this
theorem nd_lit2 {W : World} {b : Nat} {x y : SNd} {cs ds : List Value} (o : Int) (h : kNd.M W b (fun _ => True) x cs) (k : kNd.M W b (fun _ => True) y ds) (hb : b ≤ W.heap.size) :
    kNd.M (W.alloc (.cells (cs ++ ds).toArray 99)) b (fun _ => True) ⟨o, [x, y]⟩ [.int .u8 o, .slice (some ⟨W.heap.size, 0, none⟩) 2 2] := by
  refine kNd_mkM _ _ _ ⟨o, [x, y]⟩ (v1 := .slice (some ⟨W.heap.size, 0, none⟩) 2 2) ⟨fun _ _ => trivial, OwnRow.lit W b (inner := cs ++ ds) ?_ hb (by simp)⟩
  have mv : ∀ {z : SNd} {es : List Value}, kNd.M W b (fun _ => True) z es → kNd.M (W.alloc (.cells (cs ++ ds).toArray 99)) b (fun k => True ∧ some k ≠ (Value.slice (some ⟨W.heap.size, 0, none⟩) 2 2).ownBlock) z es := fun hz =>
    Kd.M_below (kNd.M_mono (ok' := fun k => True ∧ some k ≠ (Value.slice (some ⟨W.heap.size, 0, none⟩) 2 2).ownBlock) (fun k hk => ⟨trivial, by have := hk.2.2.1; simp [Value.ownBlock]; omega⟩) (kNd.M_bound hz)) (below_alloc (Below.refl _ _) (.cells (cs ++ ds).toArray 99))
  have h1 := mv h
  have h2 := mv k
  have := ((Reps.none (kNd.M (W.alloc (.cells (cs ++ ds).toArray 99)) b (fun k => True ∧ some k ≠ (Value.slice (some ⟨W.heap.size, 0, none⟩) 2 2).ownBlock)) kNd.sz).snoc h1 (kNd.K_len (kNd.K_of_M h1))).snoc h2 (kNd.K_len (kNd.K_of_M h2))
  simpa using this
theorem nd_leaf (w : World) (b : Nat) (o : Int) : kNd.M w b (fun _ => True) ⟨o, []⟩ [.int .u8 o, .slice none 0 0] := kNd_mkM w b _ ⟨o, []⟩ (Kd.R_nil _ _ _ _ _)
theorem strL_at {s : List UInt8} {p : Nat} {c : UInt8} {t : List UInt8} (h : s.drop p = c :: t) (hp : p < (strL s).size) : (((strL s)[p]'hp).toNat : Int) = (c.toNat : Int) := by
  have : s[p]? = some c := by
    have h1 : (s.drop p)[0]? = some c := by rw [h]; rfl
    rwa [List.getElem?_drop, Nat.add_zero] at h1
  have h2 : s[p]'hp = c := by
    have h3 : p < s.length := hp
    rw [List.getElem?_eq_getElem h3] at this
    exact Option.some.inj this
  have h4 : (strL s)[p]'hp = s[p]'hp := rfl
  rw [h4, h2]
theorem rd40 (n k : Nat) (t : List UInt8) : rdF n (k + 1) (40 :: t) = match rdF n k t with
    | none => none
    | some (_, []) => none
    | some (l, o :: t2) =>
      match opOf o with
      | none => none
      | some op =>
        match rdF n k t2 with
        | none => none
        | some (_, []) => none
        | some (r, e :: t3) => if e = 41 then some (.bin op l r, t3) else none := rfl
theorem drop_lt {s : List UInt8} {p : Nat} (h : p < s.length) : ∃ c, s.drop p = c :: s.drop (p + 1) := ⟨_, List.drop_eq_getElem_cons h⟩
theorem rd_bin {s : List UInt8} {many k p1 p2 : Nat} {t : List UInt8} {bad1 bad2 : Bool} {x1 x2 : SNd} {o : UInt8} {op : Tr.Op} (ho1 : RdOk s p1 bad1 x1 (rdF many k t)) (hdo : s.drop p1 = o :: s.drop (p1 + 1)) (hop : opOf o = some op)
    (ho2 : RdOk s p2 bad2 x2 (if bad1 then none else rdF many k (s.drop (p1 + 1)))) :
    (s.drop p2 = [] → rdF many (k + 1) (40 :: t) = none) ∧ (∀ z, s.drop p2 = z :: s.drop (p2 + 1) → z ≠ 41 → rdF many (k + 1) (40 :: t) = none) ∧
      (s.drop p2 = 41 :: s.drop (p2 + 1) → RdOk s (p2 + 1) bad2 ⟨opN op, [x1, x2]⟩ (rdF many (k + 1) (40 :: t))) := by
  rw [rd40]
  cases hq : rdF many k t with
  | none =>
    rw [hq] at ho1
    have hb : bad1 = true := ho1
    subst hb
    have hb2 : bad2 = true := ho2
    exact ⟨fun _ => rfl, fun _ _ _ => rfl, fun _ => hb2⟩
  | some q =>
    obtain ⟨l, r⟩ := q
    rw [hq] at ho1
    obtain ⟨hb, hx, hr⟩ := ho1
    rw [hdo] at hr
    subst hr
    subst hb
    rw [if_neg (by simp)] at ho2
    simp only [hop]
    cases hq2 : rdF many k (s.drop (p1 + 1)) with
    | none =>
      rw [hq2] at ho2
      exact ⟨fun _ => rfl, fun _ _ _ => rfl, fun _ => ho2⟩
    | some q2 =>
      obtain ⟨f2, r2⟩ := q2
      rw [hq2] at ho2
      obtain ⟨hb2, hx2, hr2⟩ := ho2
      subst hr2
      refine ⟨fun h => by rw [h], fun z h hz => by rw [h]; simp only [if_neg hz], fun h => ?_⟩
      rw [h]
      simp only [if_true]
      exact ⟨hb2, by rw [hx, hx2]; simp only [ndF], rfl⟩
structure NB (g gr gb b : Nat) (x : SNd) (sl : Value) (W : World) : Prop where
  bx : Blk W gb 99 #[.int .u8 x.f0, sl]
  m : kNd.M W b (fun _ => True) x [.int .u8 x.f0, sl]
  ng : g < gb
  nr : gr < gb
  nb : g < b
  mb : gr < b
section
variable {w W W' : World} {g gr gb b : Nat} {x : SNd} {sl : Value}
theorem NB.keep (h : NB g gr gb b x sl W) (k : Keep (fun i => i ≠ g) W W') : NB g gr gb b x sl W' := ⟨k.blk h.bx (by have := h.ng; omega), nd_keep h.m k (fun i hi => by have := h.nb; omega), h.ng, h.nr, h.nb, h.mb⟩
theorem NB.below (h : NB g gr gb b x sl W) (hb : Below W.heap.size W W') : NB g gr gb b x sl W' := h.keep (Keep.of_below hb)
theorem NB.alloc (h : NB g gr gb b x sl W) (o : Obj) : NB g gr gb b x sl (W.alloc o) := h.below (below_alloc (Below.refl _ _) o)
theorem NB.drewN (h : NB g gr gb b x sl W) (n : Nat) : NB g gr gb b x sl (W.drewN n) := h.below (pw_below_drewN (Below.refl _ _) n)
theorem NB.set_ (h : NB g gr gb b x sl W) (i : Nat) (u : Value) : NB g gr gb b x sl (W.setCell ⟨g, i, none⟩ u) := h.keep ((Keep.refl _ _).set_ g i u (fun _ hp => hp rfl))
theorem NB.setR (h : NB g gr gb b x sl W) (i : Nat) (u : Value) : NB g gr gb b x sl (W.setCell ⟨gr, i, none⟩ u) :=
  ⟨Blk.far h.bx (p := ⟨gr, i, none⟩) (by have := h.nr; show gb ≠ gr; omega) u, nd_keep h.m ((Keep.refl (fun j => j ≠ gr) W).set_ gr i u (fun _ hp => hp rfl)) (fun j hj => by have := h.mb; omega), h.ng, h.nr, h.nb, h.mb⟩
theorem NB.b0 (h : NB g gr gb b x sl W) : W.cell? ⟨gb, 0, none⟩ = some (.int .u8 x.f0) := h.bx.cell 0
theorem NB.b1 (h : NB g gr gb b x sl W) : W.cell? ⟨gb, 1, none⟩ = some sl := h.bx.cell 1
end
set_option maxHeartbeats 3200000 in
set_option maxRecDepth 100000 in
theorem form_succ (g : Nat) (s : List UInt8) (many : Nat) (hm : many ≤ 10) (hs : s.length ≤ 40) (k p : Nat) (hp : p ≤ s.length) (w : World) (h : RB g s many p false w)
    (hih : ∀ (bad : Bool) (p : Nat) (w : World), p ≤ s.length → RB g s many p bad w → (bad = false → (s.drop p).length < k) →
      Calls Tryz.prog 81 #[.pointer (some ⟨g, 0, none⟩)] w (FormP g s many w (if bad then none else rdF many k (s.drop p))))
    (hk : (s.drop p).length < k + 1) :
    Calls Tryz.prog 81 #[.pointer (some ⟨g, 0, none⟩)] w (FormP g s many w (rdF many (k + 1) (s.drop p))) := by
  have HS := Aside0.mk (FS.start h)
  have IH := Aside0.mk hih
  have hne : ¬ g = w.heap.size := by have := Blk.lt h; omega
  have hne2 : ¬ w.heap.size = g := by have := Blk.lt h; omega
  have hsz : (strL s).size = s.length := strL_size s
  have p0 : (0 : Int) ≤ (p : Int) := by omega
  obtain ⟨R, hR⟩ : ∃ R, rdF many (k + 1) (s.drop p) = R := ⟨_, rfl⟩
  rw [hR]
  clear h hih
  rcases hd : s.drop p with _ | ⟨c, t⟩
  · have hpe : s.length ≤ p := List.drop_eq_nil_iff.1 hd
    have hge : decide ((s.length : Int) ≤ (p : Int)) = true := decide_eq_true (by omega)
    obtain rfl : none = R := by rw [← hR, hd]; rfl
    clear hR
    go_enter Tryz.func81, Tryz.ntmps81
    go_wp2_with fail
    generalize w.alloc (.cells #[.int .u8 0, .slice none 0 0] 99) = W0 at *
    have c0 := HS.out.c0
    have c1 := HS.out.c1
    have c3 := HS.out.c3
    have f3 := HS.out.f3
    have g0 := HS.out.n0
    have g1 := HS.out.n1
    have e0 := HS.out.e0
    have e1 := HS.out.e1
    go_quiet (fail)
    go_wp2_with (with_reducible refine retG (by with_unfolding_all rfl) ?_)
    exact ((((HS.out.drewN _).fail).node _ _).fin (x := zNd) (nd_zero _ _) (Nat.le_refl _) hp (rdOk_none s p zNd))
  · have hpl : p < s.length := by
      rcases Nat.lt_or_ge p s.length with h1 | h1
      · exact h1
      · rw [List.drop_of_length_le h1] at hd; cases hd
    have hpi : (p : Int) < (s.length : Int) := by omega
    have hge : decide ((s.length : Int) ≤ (p : Int)) = false := decide_eq_false (by omega)
    have HRR := Aside0.mk (show rdF many (k + 1) (c :: t) = R by rw [← hd]; exact hR)
    clear hR
    have hx := strL_at hd (by rw [hsz]; exact hpl)
    have hd1 : s.drop (p + 1) = t := by
      have := List.drop_eq_getElem_cons hpl
      rw [hd] at this
      exact (List.cons.inj this).2.symm
    have hw : wrap64 ((p : Int) + 1) = ((p + 1 : Nat) : Int) := wr_succ p (by omega)
    go_enter Tryz.func81, Tryz.ntmps81
    go_wp2_with fail
    generalize w.alloc (.cells #[.int .u8 0, .slice none 0 0] 99) = W0 at *
    have c0 := HS.out.c0
    have c1 := HS.out.c1
    have c3 := HS.out.c3
    have f1 := HS.out.f1
    go_quiet (fail)
    go_wp2_with fail
    go_quiet (fail)
    go_upto_region 5 with fail
    go_cut [41] (fun s41 wx => Aside0 (FS w g s many (p + 1) false (.int .u8 0) (.slice none 0 0) wx))
    case first =>
      go_wp2_with fail
      go_meet
      exact ⟨(HS.out.drewN _).go (p + 1)⟩
    case rest =>
      have HS1 := hcut
      have c2 := HS1.out.c2
      have f3 := HS1.out.f3
      have g0 := HS1.out.n0
      have g1 := HS1.out.n1
      have e0 := HS1.out.e0
      have e1 := HS1.out.e1
      obtain ⟨x, hx0⟩ : ∃ x : Nat, c.toNat = x := ⟨_, rfl⟩
      have hc : ∀ d : UInt8, c = d ↔ x = d.toNat := fun d => by rw [← hx0]; exact ⟨fun h => by rw [h], fun h => UInt8.toNat_inj.1 h⟩
      have hx255 : x ≤ 255 := by rw [← hx0]; exact Nat.le_of_lt_succ c.toNat_lt
      have HP := Aside0.mk (show p + 1 ≤ s.length by omega)
      rw [hx0]
      clear hx
      have HPL := Aside0.mk hpl
      clear hcut hge hw hpi hpl c0 c1 c3 f1 HS
      by_cases q48 : x = 48
      · subst q48
        obtain rfl : c = 48 := (hc 48).2 rfl
        clear hc hx0 hx255
        go_wp2_with (with_reducible refine retG (by with_unfolding_all rfl) ?_)
        exact (HS1.out.node _ _).fin (x := ⟨48, []⟩) (nd_leaf _ _ _) (Nat.le_refl _) HP.out (by rw [← HRR.out]; exact ⟨rfl, rfl, hd1⟩)
      by_cases q49 : x = 49
      · subst q49
        obtain rfl : c = 49 := (hc 49).2 rfl
        clear hc hx0 hx255 q48
        go_wp2_with (with_reducible refine retG (by with_unfolding_all rfl) ?_)
        exact (HS1.out.node _ _).fin (x := ⟨49, []⟩) (nd_leaf _ _ _) (Nat.le_refl _) HP.out (by rw [← HRR.out]; exact ⟨rfl, rfl, hd1⟩)
      have b48 : ((x : Int) == 48) = false := by rw [beq_eq_false_iff_ne]; omega
      have b49 : ((x : Int) == 49) = false := by rw [beq_eq_false_iff_ne]; omega
      by_cases ql : 97 ≤ x ∧ x - 97 < many
      · have d97 : decide (97 ≤ (x : Int)) = true := decide_eq_true (by omega)
        have d122 : decide ((x : Int) ≤ 122) = true := decide_eq_true (by omega)
        have hsub : ((x : Int) - 97) % 256 = ((x - 97 : Nat) : Int) := by omega
        have dlt : decide (((x - 97 : Nat) : Int) < (many : Int)) = true := decide_eq_true (by omega)
        have hr : rdF many (k + 1) (c :: t) = some (.lt (x - 97), t) := by
          rw [rdF, if_neg (fun h => q48 ((hc 48).1 h)), if_neg (fun h => q49 ((hc 49).1 h)), hx0, if_pos ql]
        have HX := Aside0.mk (show RdOk s (p + 1) false ⟨(x : Int), []⟩ R by
          rw [← HRR.out, hr]
          refine ⟨rfl, ?_, hd1⟩
          simp only [ndF]
          congr 1
          omega)
        clear hc hr hx0
        go_wp2_with (with_reducible refine retG (by with_unfolding_all rfl) ?_)
        exact (HS1.out.node _ _).fin (x := ⟨(x : Int), []⟩) (nd_leaf _ _ _) (Nat.le_refl _) HP.out HX.out
      by_cases q33 : x = 33
      · subst q33
        obtain rfl : c = 33 := (hc 33).2 rfl
        clear hc hx0 hx255 ql
        have HR := Aside0.mk (show R = match rdF many k t with
            | none => none
            | some (f, r) => some (.neg f, r) by rw [← HRR.out]; rfl)
        have HC := Aside0.mk (IH.out false (p + 1) wc HP.out HS1.out.r (fun _ => by rw [hd1]; rw [hd] at hk; simpa using hk))
        rw [if_neg (by simp), hd1] at HC
        go_wp2_with fail
        refine HC.out.mono ?_
        intro e w2 hf
        obtain ⟨x1, A1, n1, m1, p1, bad1, rfl, hM1, hr1, hp1, hk1, ho1⟩ := hf.open
        have HS2 := Aside0.mk (HS1.out.call hr1 hk1)
        have HM1 := Aside0.mk hM1
        have HP1 := Aside0.mk hp1
        have HO1 := Aside0.mk ho1
        have hs2 := HS2.out.size
        have HK1 := Aside0.mk hk1.size
        clear hf hM1 hr1 hp1 hk1 ho1 g0 g1 e0 e1 f3 c2
        have g0 := HS2.out.n0
        have g1 := HS2.out.n1
        have e0 := HS2.out.e0
        have e1 := HS2.out.e1
        go_wp2_with (with_reducible refine retG (by with_unfolding_all rfl) ?_)
        have hM3 := nd_keep HM1.out (((Keep.refl (fun i => i ≠ w.heap.size) w2).set_ w.heap.size 0 (.int .u8 33) (fun _ h => h rfl)).set_ w.heap.size 1 (.slice (some ⟨w2.heap.size + 1, 0, none⟩) 1 1) (fun _ h => h rfl)) (fun k hk => by have := HS1.out.size; omega)
        have hM4 := Kd.M_below hM3 (below_alloc (Below.refl _ _) (.cells #[.int .u8 x1.f0, .slice A1 n1 m1] 99))
        have hM5 := nd_lit1 33 hM4 (by have := HS2.out.k.size; have := HK1.out; simp; omega)
        have e5 : (((w2.setCell ⟨w.heap.size, 0, none⟩ (.int .u8 33)).setCell ⟨w.heap.size, 1, none⟩ (.slice (some ⟨w2.heap.size + 1, 0, none⟩) 1 1)).alloc (.cells #[.int .u8 x1.f0, .slice A1 n1 m1] 99)).heap.size = w2.heap.size + 1 := by simp
        rw [e5] at hM5
        refine (((HS2.out.node _ _).alloc _).alloc _).fin (x := ⟨33, [x1]⟩) hM5 (by have := HS1.out.size; omega) HP1.out ?_
        have ho := HO1.out
        rw [HR.out]
        cases hq : rdF many k t with
        | none => rw [hq] at ho; exact ho
        | some q =>
          obtain ⟨f, r⟩ := q
          rw [hq] at ho
          exact ⟨ho.1, by rw [ho.2.1]; simp only [ndF], ho.2.2⟩
      have b33 : ((x : Int) == 33) = false := by rw [beq_eq_false_iff_ne]; omega
      by_cases q40 : x = 40
      · subst q40
        obtain rfl : c = 40 := (hc 40).2 rfl
        clear hc hx0 hx255 ql
        have HR := Aside0.mk (HRR.out.symm.trans (rd40 many k t))
        have HC := Aside0.mk (IH.out false (p + 1) wc HP.out HS1.out.r (fun _ => by rw [hd1]; rw [hd] at hk; simpa using hk))
        rw [if_neg (by simp), hd1] at HC
        have HSP := Aside0.mk (rd_spec many k t)
        have HKT := Aside0.mk (show t.length < k by rw [hd] at hk; simpa using hk)
        go_wp2_with fail
        refine HC.out.mono ?_
        intro e w2 hf
        obtain ⟨x1, A1, n1, m1, p1, bad1, rfl, hM1, hr1, hp1, hk1, ho1⟩ := hf.open
        have HS2 := Aside0.mk ((HS1.out.call hr1 hk1).alloc (.cells #[.int .u8 x1.f0, .slice A1 n1 m1] 99))
        have HN1 : Aside0 (NB g w.heap.size w2.heap.size wc.heap.size x1 (.slice A1 n1 m1) (w2.alloc (.cells #[.int .u8 x1.f0, .slice A1 n1 m1] 99))) :=
          ⟨⟨Blk.new _ _ _, Kd.M_below hM1 (below_alloc (Below.refl _ _) _), by have := (HS1.out.call hr1 hk1).size; have := HS1.out.lt; omega, (HS1.out.call hr1 hk1).size, by have := HS1.out.size; have := HS1.out.lt; omega, HS1.out.size⟩⟩
        obtain ⟨bs1, hbs⟩ : ∃ b, wc.heap.size = b := ⟨_, rfl⟩
        rw [hbs] at HN1
        have HO1 := Aside0.mk ho1
        clear hbs hf hM1 hr1 hk1 ho1 g0 g1 e0 e1 f3 c2 HC HP HPL HRR hd hp hk
        have p10 : (0 : Int) ≤ (p1 : Int) := by omega
        by_cases hpl1 : p1 < s.length
        · obtain ⟨o, hdo⟩ := drop_lt hpl1
          have hpi1 : (p1 : Int) < (s.length : Int) := by omega
          have hlt1 : decide ((p1 : Int) < (s.length : Int)) = true := decide_eq_true (by omega)
          have hx1 := strL_at hdo (by rw [hsz]; exact hpl1)
          have hw1 : wrap64 ((p1 : Int) + 1) = ((p1 + 1 : Nat) : Int) := wr_succ p1 (by omega)
          have HP1 := Aside0.mk (show p1 + 1 ≤ s.length by omega)
          have HDO := Aside0.mk hdo
          clear hdo hp1
          go_upto_region 14 with fail
          generalize w2.alloc (.cells #[.int .u8 x1.f0, .slice A1 n1 m1] 99) = W2 at *
          generalize w2.heap.size = gb1 at *
          have c0 := HS2.out.c0
          have c1 := HS2.out.c1
          have f1 := HS2.out.f1
          go_quiet (fail)
          go_wp2_with fail
          go_quiet (fail)
          go_upto_region 16 with fail
          go_cut [108] (fun s108 wx => Aside0 (FS w g s many (p1 + 1) bad1 (.int .u8 0) (.slice none 0 0) wx) ∧ Aside0 (NB g w.heap.size gb1 bs1 x1 (.slice A1 n1 m1) wx))
          case first =>
            go_wp2_with fail
            go_meet
            exact ⟨⟨(HS2.out.drewN _).go (p1 + 1)⟩, ⟨(HN1.out.drewN _).set_ 1 _⟩⟩
          case rest =>
            obtain ⟨HS3, HN3⟩ := hcut
            obtain ⟨y, hy⟩ : ∃ y : Nat, o.toNat = y := ⟨_, rfl⟩
            rw [hy]
            clear c0 c1 f1 hx1 hw1 hpi1 hlt1 HS2 HN1
            have c3 := HS3.out.c3
            have f3 := HS3.out.f3
            have g0 := HS3.out.n0
            have g1 := HS3.out.n1
            have e0 := HS3.out.e0
            have e1 := HS3.out.e1
            cases hop : opOf o with
            | none =>
              have hno : ∀ op, o ≠ opByte op := fun op h => by rw [h, opOf_byte] at hop; cases hop
              have y1 : ((y : Int) != 38) = true := by rw [bne_iff_ne]; intro h; exact hno .and (UInt8.toNat_inj.1 (by rw [hy]; show y = 38; omega))
              have y2 : ((y : Int) != 124) = true := by rw [bne_iff_ne]; intro h; exact hno .or (UInt8.toNat_inj.1 (by rw [hy]; show y = 124; omega))
              have y3 : ((y : Int) != 61) = true := by rw [bne_iff_ne]; intro h; exact hno .eq (UInt8.toNat_inj.1 (by rw [hy]; show y = 61; omega))
              have hRn : R = none := by
                rw [HR.out]
                have ho := HO1.out
                cases hq : rdF many k t with
                | none => rfl
                | some q =>
                  obtain ⟨l, r⟩ := q
                  rw [hq] at ho
                  have h3 := ho.2.2
                  rw [HDO.out] at h3
                  subst h3
                  simp only [hop]
              have HRN := Aside0.mk hRn
              clear hRn hop hy hno HR HO1 HDO
              go_wp2_with (with_reducible refine retG (by with_unfolding_all rfl) ?_)
              exact ((HS3.out.fail.node _ _).fin (x := zNd) (nd_zero _ _) (Nat.le_refl _) HP1.out (by rw [HRN.out]; exact rdOk_none s _ zNd))
            | some op =>
              have hopy : (y : Int) = opN op := by rw [← hy, opOf_some hop]; cases op <;> rfl
              have HOP := Aside0.mk hop
              have HOY := Aside0.mk hopy
              clear hop hy g0 g1 e0 e1 f3 c3
              go_upto_region 17 with fail
              go_cut [120] (fun s120 wx => s120 = .bool false ∧ Aside0 (FS w g s many (p1 + 1) bad1 (.int .u8 0) (.slice none 0 0) wx) ∧ Aside0 (NB g w.heap.size gb1 bs1 x1 (.slice A1 n1 m1) wx))
              case first =>
                cases op with
                | and =>
                  have y1 : ((y : Int) != 38) = false := by rw [hopy]; rfl
                  clear hopy
                  go_wp2_with fail
                  go_meet
                  exact ⟨rfl, HS3, HN3⟩
                | or =>
                  have y1 : ((y : Int) != 38) = true := by rw [hopy]; rfl
                  have y2 : ((y : Int) != 124) = false := by rw [hopy]; rfl
                  clear hopy
                  go_wp2_with fail
                  go_meet
                  exact ⟨rfl, HS3, HN3⟩
                | eq =>
                  have y1 : ((y : Int) != 38) = true := by rw [hopy]; rfl
                  have y2 : ((y : Int) != 124) = true := by rw [hopy]; rfl
                  have y3 : ((y : Int) != 61) = false := by rw [hopy]; rfl
                  clear hopy
                  go_wp2_with fail
                  go_meet
                  exact ⟨rfl, HS3, HN3⟩
              case rest =>
                obtain ⟨rfl, HS4, HN4⟩ := hcut
                clear HS3 HN3 hopy
                have hlen2 : bad1 = false → (s.drop (p1 + 1)).length < k := fun hb => by
                  have ho := HO1.out
                  cases hq : rdF many k t with
                  | none => rw [hq] at ho; rw [show bad1 = true from ho] at hb; cases hb
                  | some q =>
                    obtain ⟨l, r⟩ := q
                    rw [hq] at ho
                    obtain ⟨_, pf, hpf, _, _⟩ := HSP.out l r hq
                    have h1 := congrArg List.length hpf
                    rw [List.length_append, ← ho.2.2, HDO.out, List.length_cons] at h1
                    have := HKT.out
                    omega
                have HC := Aside0.mk (IH.out bad1 (p1 + 1) _ HP1.out HS4.out.r hlen2)
                clear hlen2
                go_wp2_with fail
                refine HC.out.mono ?_
                intro e w3 hf
                obtain ⟨x2, A2, n2, m2, p2, bad2, rfl, hM2, hr2, hp2, hk2, ho2⟩ := hf.open
                have HS5 := Aside0.mk ((HS4.out.call hr2 hk2).alloc (.cells #[.int .u8 x2.f0, .slice A2 n2 m2] 99))
                have HN5 := Aside0.mk ((HN4.out.keep hk2).alloc (.cells #[.int .u8 x2.f0, .slice A2 n2 m2] 99))
                have HN6 : Aside0 (NB g w.heap.size w3.heap.size _ x2 (.slice A2 n2 m2) (w3.alloc (.cells #[.int .u8 x2.f0, .slice A2 n2 m2] 99))) :=
                  ⟨⟨Blk.new _ _ _, Kd.M_below hM2 (below_alloc (Below.refl _ _) _), by have := (HS4.out.call hr2 hk2).size; have := HS4.out.lt; omega, (HS4.out.call hr2 hk2).size, by have := HS4.out.size; have := HS4.out.lt; omega, HS4.out.size⟩⟩
                have HO2 := Aside0.mk ho2
                have HBIN := Aside0.mk (rd_bin HO1.out HDO.out HOP.out ho2)
                rw [← HOY.out, rd40, ← HR.out] at HBIN
                have HPP := Aside0.mk hp2
                clear hf hM2 hr2 hk2 ho2 HC
                have p20 : (0 : Int) ≤ (p2 : Int) := by omega
                clear HO1 HO2 HR HSP HKT IH HDO HOP HP1 hp2
                by_cases hpl2 : p2 < s.length
                · obtain ⟨z0, hdz⟩ := drop_lt hpl2
                  have hpi2 : (p2 : Int) < (s.length : Int) := by omega
                  have hge2 : decide ((s.length : Int) ≤ (p2 : Int)) = false := decide_eq_false (by omega)
                  have hx2 := strL_at hdz (by rw [hsz]; exact hpl2)
                  have hw2 : wrap64 ((p2 : Int) + 1) = ((p2 + 1 : Nat) : Int) := wr_succ p2 (by omega)
                  have HP2 := Aside0.mk (show p2 + 1 ≤ s.length by omega)
                  obtain ⟨z, hz⟩ : ∃ z : Nat, z0.toNat = z := ⟨_, rfl⟩
                  rw [hz] at hx2
                  by_cases hz41 : z0 = 41
                  · subst hz41
                    have z1 : ((z : Int) != 41) = false := by rw [← hz]; rfl
                    have HRB := Aside0.mk (HBIN.out.2.2 hdz)
                    clear HBIN hdz hz
                    go_upto_region 21 with fail
                    generalize w3.alloc (.cells #[.int .u8 x2.f0, .slice A2 n2 m2] 99) = W5 at *
                    generalize w3.heap.size = gb2 at *
                    have c0 := HS5.out.c0
                    have c1 := HS5.out.c1
                    have f1 := HS5.out.f1
                    have g0 := HS5.out.n0
                    have g1 := HS5.out.n1
                    have e0 := HS5.out.e0
                    have e1 := HS5.out.e1
                    have b0 := HN5.out.b0
                    have b1 := HN5.out.b1
                    have d0 := HN6.out.b0
                    have d1 := HN6.out.b1
                    have hs5 := HS5.out.size
                    have m1 : ¬ gb1 = g := by have := HN5.out.ng; omega
                    have m2 : ¬ gb2 = g := by have := HN6.out.ng; omega
                    have m3 : ¬ gb1 = w.heap.size := by have := HN5.out.nr; omega
                    have m4 : ¬ gb2 = w.heap.size := by have := HN6.out.nr; omega
                    go_quiet (fail)
                    go_wp2_with (with_reducible refine retG (by with_unfolding_all rfl) ?_)
                    have hN5 := ((((HN5.out.drewN nq).set_ 1 (.int .i64 ((p2 + 1 : Nat) : Int))).setR 0 (.int .u8 (y : Int))).setR 1 (.slice (some ⟨W5.heap.size, 0, none⟩) 2 2)).m
                    have hN6 := ((((HN6.out.drewN nq).set_ 1 (.int .i64 ((p2 + 1 : Nat) : Int))).setR 0 (.int .u8 (y : Int))).setR 1 (.slice (some ⟨W5.heap.size, 0, none⟩) 2 2)).m
                    have hL5 := kNd.M_lower (show w.heap.size + 1 ≤ _ from HN5.out.mb) hN5
                    have hL6 := kNd.M_lower (show w.heap.size + 1 ≤ _ from HN6.out.mb) hN6
                    have hM := nd_lit2 (y : Int) hL5 hL6 (by simp; omega)
                    have e5 : (((((W5.drewN nq).setCell ⟨g, 1, none⟩ (.int .i64 ((p2 + 1 : Nat) : Int))).setCell ⟨w.heap.size, 0, none⟩ (.int .u8 (y : Int))).setCell ⟨w.heap.size, 1, none⟩ (.slice (some ⟨W5.heap.size, 0, none⟩) 2 2))).heap.size = W5.heap.size := by simp
                    rw [e5] at hM
                    exact ((((HS5.out.drewN _).go (p2 + 1)).node _ _).alloc _).fin (x := ⟨(y : Int), [x1, x2]⟩) hM (by omega) HP2.out HRB.out
                  · have z1 : ((z : Int) != 41) = true := by rw [bne_iff_ne]; intro h; exact hz41 (UInt8.toNat_inj.1 (by rw [hz]; show z = 41; omega))
                    have HRN := Aside0.mk (HBIN.out.2.1 z0 hdz hz41)
                    clear HBIN hdz hz hz41 HN5 HN6
                    go_upto_region 21 with fail
                    generalize w3.alloc (.cells #[.int .u8 x2.f0, .slice A2 n2 m2] 99) = W5 at *
                    have c0 := HS5.out.c0
                    have c1 := HS5.out.c1
                    have c3 := HS5.out.c3
                    have f3 := HS5.out.f3
                    have g0 := HS5.out.n0
                    have g1 := HS5.out.n1
                    have e0 := HS5.out.e0
                    have e1 := HS5.out.e1
                    go_quiet (fail)
                    go_wp2_with (with_reducible refine retG (by with_unfolding_all rfl) ?_)
                    exact ((((HS5.out.drewN _).fail).node _ _).fin (x := zNd) (nd_zero _ _) (Nat.le_refl _) (by omega) (by rw [HRN.out]; exact rdOk_none s _ zNd))
                · have hge2 : decide ((s.length : Int) ≤ (p2 : Int)) = true := decide_eq_true (by omega)
                  have HRN := Aside0.mk (HBIN.out.1 (List.drop_of_length_le (by omega)))
                  clear HBIN HN5 HN6
                  go_upto_region 21 with fail
                  generalize w3.alloc (.cells #[.int .u8 x2.f0, .slice A2 n2 m2] 99) = W5 at *
                  have c0 := HS5.out.c0
                  have c1 := HS5.out.c1
                  have c3 := HS5.out.c3
                  have f3 := HS5.out.f3
                  have g0 := HS5.out.n0
                  have g1 := HS5.out.n1
                  have e0 := HS5.out.e0
                  have e1 := HS5.out.e1
                  go_quiet (fail)
                  go_wp2_with (with_reducible refine retG (by with_unfolding_all rfl) ?_)
                  exact ((((HS5.out.drewN _).fail).node _ _).fin (x := zNd) (nd_zero _ _) (Nat.le_refl _) HPP.out (by rw [HRN.out]; exact rdOk_none s _ zNd))
        · have hge1 : decide ((p1 : Int) < (s.length : Int)) = false := decide_eq_false (by omega)
          have hRn : R = none := by
            rw [HR.out]
            have ho := HO1.out
            cases hq : rdF many k t with
            | none => rfl
            | some q =>
              obtain ⟨l, r⟩ := q
              rw [hq] at ho
              have h3 := ho.2.2
              rw [List.drop_of_length_le (by omega)] at h3
              subst h3
              rfl
          have HRN := Aside0.mk hRn
          clear hRn HR HO1 HN1 HSP HKT IH
          go_upto_region 14 with fail
          generalize w2.alloc (.cells #[.int .u8 x1.f0, .slice A1 n1 m1] 99) = W2 at *
          have c0 := HS2.out.c0
          have c1 := HS2.out.c1
          have c3 := HS2.out.c3
          have f3 := HS2.out.f3
          have g0 := HS2.out.n0
          have g1 := HS2.out.n1
          have e0 := HS2.out.e0
          have e1 := HS2.out.e1
          go_quiet (fail)
          go_wp2_with (with_reducible refine retG (by with_unfolding_all rfl) ?_)
          exact ((((HS2.out.drewN _).fail).node _ _).fin (x := zNd) (nd_zero _ _) (Nat.le_refl _) hp1 (by rw [HRN.out]; exact rdOk_none s _ zNd))
      have b40 : ((x : Int) == 40) = false := by rw [beq_eq_false_iff_ne]; omega
      have hRn : R = none := by
        rw [← HRR.out, rdF, if_neg (fun h => q48 ((hc 48).1 h)), if_neg (fun h => q49 ((hc 49).1 h)), hx0, if_neg ql, if_neg (fun h => q33 ((hc 33).1 h)), if_neg (fun h => q40 ((hc 40).1 h))]
      have HRN := Aside0.mk hRn
      have c3 := HS1.out.c3
      clear hc hx0 hRn IH HRR hd hk
      by_cases h97 : 97 ≤ x
      · have d97 : decide (97 ≤ (x : Int)) = true := decide_eq_true (by omega)
        by_cases h122 : x ≤ 122
        · have d122 : decide ((x : Int) ≤ 122) = true := decide_eq_true (by omega)
          have hsub : ((x : Int) - 97) % 256 = ((x - 97 : Nat) : Int) := by omega
          have dlt : decide (((x - 97 : Nat) : Int) < (many : Int)) = false := decide_eq_false (by omega)
          go_wp2_with (with_reducible refine retG (by with_unfolding_all rfl) ?_)
          exact ((HS1.out.fail.node _ _).fin (x := zNd) (nd_zero _ _) (Nat.le_refl _) HP.out (by rw [HRN.out]; exact rdOk_none s _ zNd))
        · have d122 : decide ((x : Int) ≤ 122) = false := decide_eq_false (by omega)
          go_wp2_with (with_reducible refine retG (by with_unfolding_all rfl) ?_)
          exact ((HS1.out.fail.node _ _).fin (x := zNd) (nd_zero _ _) (Nat.le_refl _) HP.out (by rw [HRN.out]; exact rdOk_none s _ zNd))
      · have d97 : decide (97 ≤ (x : Int)) = false := decide_eq_false (by omega)
        go_wp2_with (with_reducible refine retG (by with_unfolding_all rfl) ?_)
        exact ((HS1.out.fail.node _ _).fin (x := zNd) (nd_zero _ _) (Nat.le_refl _) HP.out (by rw [HRN.out]; exact rdOk_none s _ zNd))
end Go.Proofs.YtijaefmaceolbaaGreatDoor.Im

