/- Further parts of the same walk: contracts of the functions that the law reaches, each under the conditions that it states. -/
import Derived.Test.YtmobefgnkiboaaaC12C
namespace Go.Proofs.Ytmobefgnkiboaaa.Im
open Go.RowKit Go.Proofs.YtmobefgnkiboaaaW.PrintWords Go.Proofs.YtmobefgnkiboaaaW.PrintLast Go.Proofs.YtmobefgnkiboaaaW.PrintMore
set_option linter.unusedVariables false
theorem valid_any (n : Int) (A : Option Addr) (c : Nat) (l : List S43) (w : World) (hr : Kd.C k43 w A l.length l) (hc : l.length ≤ c) :
    Calls Try.prog 21 #[.int .i64 n, .slice A l.length c] w fun e w' => e = .returned (.bool (ofE n l == 0)) ∧ Below w.heap.size w w' := by
  have hg : Gives (fun k => pomadelaw02_valid.f k n l) (ofE n l == 0) := (Town_g n l).map fun k hk => by
    simp only [pomadelaw02_valid.f]
    rw [hk, Option.bind_some]
    by_cases he : ofE n l = 0
    · rw [if_pos he, he]
    · rw [if_neg he]
  obtain ⟨k0, hk0⟩ := hg
  exact pomadelaw02_valid.calls k0 n A c l _ w hr hc (hk0 k0 (Nat.le_refl _))
end Go.Proofs.Ytmobefgnkiboaaa.Im

namespace Go.Proofs.Ytmobefgnkiboaaa.Im
open Go.RowKit Go.Proofs.YtmobefgnkiboaaaW.PrintWords Go.Proofs.YtmobefgnkiboaaaW.PrintLast Go.Proofs.YtmobefgnkiboaaaW.PrintMore
set_option linter.unusedVariables false
/-- A list and an error; with an error the list is empty. -/
def OutO (r : List Nat) (er : Int) (w : World) (e : Ending) (w' : World) : Prop :=
  ∃ A c, e = .returned (.tuple #[.slice A r.length c, .int .i64 er]) ∧ r.length ≤ c ∧ Kd.C (Kd.int .i64) w' A r.length (ints r) ∧ Below w.heap.size w w'
def listF (n : Int) (l : List S43) (x : Option (List Nat)) : List Nat := if ofE n l = 0 then x.getD [] else []
def errF (n : Int) (l : List S43) (x : Option (List Nat)) : Int := if ofE n l = 0 then (if x.isSome then 0 else 10) else ofE n l
theorem outO_nil (er : Int) (w w' : World) (h : Below w.heap.size w w') : OutO [] er w (.returned (.tuple #[.slice none 0 0, .int .i64 er])) w' :=
  ⟨none, 0, rfl, Nat.le_refl _, C_nil w', h⟩
theorem outO_first {n : Int} {l : List S43} {w : World} {x : Option Nat} {e : Ending} {w' : World}
    (h : if ofE n l = 0 then FirstR w x e w' else e = .returned (.tuple #[.slice none 0 0, .int .i64 (ofE n l)]) ∧ Below w.heap.size w w') : OutO (listF n l (x.map memL)) (errF n l (x.map memL)) w e w' := by
  unfold listF errF
  by_cases he : ofE n l = 0
  · rw [if_pos he] at h
    rw [if_pos he, if_pos he]
    cases x with
    | none => obtain ⟨rfl, h2⟩ := h; exact outO_nil _ _ _ h2
    | some r =>
      obtain ⟨v, rfl, h2, h3⟩ := h
      obtain ⟨A, c, rfl, h4, h5⟩ := Kd.R_reads h2
      rw [ints_length] at h4 h5 ⊢
      exact ⟨A, c, rfl, h4, h5, h3⟩
  · rw [if_neg he] at h
    rw [if_neg he, if_neg he]
    obtain ⟨rfl, h2⟩ := h; exact outO_nil _ _ _ h2
theorem kerB_zero {n : Nat} (o : List Nat) (h : 1 ≤ n) : kerB n o 0 (2 ^ n - 1) = false := by
  cases hb : kerB n o 0 (2 ^ n - 1) with
  | false => rfl
  | true =>
    have := ((kerB_iff n o 0).1 hb 0 (by omega)).2 (Nat.zero_testBit 0)
    simp at this
def kerO (n : Int) (l : List S43) : Option (List Nat) := (firstS (fun s => kerB n.toNat (townO l) s (2 ^ n.toNat - 1)) n.toNat).map memL
theorem progKernel_any (n : Int) (A : Option Addr) (c : Nat) (l : List S43) (w : World) (hr : Kd.C k43 w A l.length l) (hc : l.length ≤ c) :
    Calls Try.prog 23 #[.int .i64 n, .slice A l.length c] w (OutO (listF n l (kerO n l)) (errF n l (kerO n l)) w) :=
  (Kernel_any n A c l w hr hc).mono fun e w' h => outO_first h
end Go.Proofs.Ytmobefgnkiboaaa.Im

namespace Go.Proofs.Ytmobefgnkiboaaa.Im
open Go.RowKit Go.Proofs.YtmobefgnkiboaaaW.PrintWords Go.Proofs.YtmobefgnkiboaaaW.PrintLast Go.Proofs.YtmobefgnkiboaaaW.PrintMore
set_option linter.unusedVariables false
def reachL (o M : List Nat) (r : Nat) : Nat := M.foldl (fun r i => r ||| o.getD i 0) r
theorem reachL_bit (o : List Nat) (b : Nat) : ∀ (M : List Nat) (r : Nat), (reachL o M r).testBit b = (r.testBit b || M.any fun i => (o.getD i 0).testBit b)
  | [], r => by simp [reachL]
  | i :: M, r => by
    show (reachL o M (r ||| o.getD i 0)).testBit b = _
    rw [reachL_bit o b M, Nat.testBit_or, List.any_cons, Bool.or_assoc]
end Go.Proofs.Ytmobefgnkiboaaa.Im

namespace Go.Proofs.Ytmobefgnkiboaaa.Im
open Go.RowKit Go.Proofs.YtmobefgnkiboaaaW.PrintWords Go.Proofs.YtmobefgnkiboaaaW.PrintLast Go.Proofs.YtmobefgnkiboaaaW.PrintMore
set_option linter.unusedVariables false
theorem reachL_lt {n : Nat} {o : List Nat} (ok : Okt n o) : ∀ (M : List Nat) (r : Nat), r < 2 ^ n → reachL o M r < 2 ^ n
  | [], r, h => h
  | i :: M, r, h => reachL_lt ok M _ (Nat.or_lt_two_pow h (ok.lt i))
end Go.Proofs.Ytmobefgnkiboaaa.Im

namespace Go.Proofs.Ytmobefgnkiboaaa.Im
open Go.RowKit Go.Proofs.YtmobefgnkiboaaaW.PrintWords Go.Proofs.YtmobefgnkiboaaaW.PrintLast Go.Proofs.YtmobefgnkiboaaaW.PrintMore
set_option linter.unusedVariables false
/-- The sets of the first k people turned. -/
def turnF (f : Nat → Nat) (o : List Nat) (k : Nat) : List Nat := (List.range 12).map fun i => if i < k then f i else o.getD i 0
theorem turnF_len (f : Nat → Nat) (o : List Nat) (k : Nat) : (turnF f o k).length = 12 := by simp [turnF]
theorem turnF_get (f : Nat → Nat) (o : List Nat) (k i : Nat) (hi : i < 12) : (turnF f o k).getD i 0 = if i < k then f i else o.getD i 0 := by
  unfold turnF
  rw [List.getD_eq_getElem?_getD, List.getElem?_map, List.getElem?_range hi]
  rfl
theorem ext12 {a b : List Nat} (ha : a.length = 12) (hb : b.length = 12) (h : ∀ i, i < 12 → a.getD i 0 = b.getD i 0) : a = b := by
  apply List.ext_getElem (by omega)
  intro i h1 h2
  have := h i (by omega)
  simpa [List.getD_eq_getElem?_getD, h1, h2] using this
theorem turnF_zero (f : Nat → Nat) (o : List Nat) (h : o.length = 12) : turnF f o 0 = o := ext12 (turnF_len _ _ _) h fun i hi => by rw [turnF_get f o 0 i hi, if_neg (by omega)]
theorem turnF_set (f : Nat → Nat) (o : List Nat) (k : Nat) (hk : k < 12) : (turnF f o k).set k (f k) = turnF f o (k + 1) := by
  refine ext12 (by rw [List.length_set, turnF_len]) (turnF_len _ _ _) fun i hi => ?_
  rw [turnF_get f o (k + 1) i hi, List.getD_eq_getElem?_getD, List.getElem?_set]
  by_cases e : k = i
  · rw [if_pos e, if_pos (by rw [turnF_len]; omega), if_pos (by omega), e]; rfl
  · rw [if_neg e, ← List.getD_eq_getElem?_getD, turnF_get f o k i hi]
    by_cases h : i < k
    · rw [if_pos h, if_pos (by omega)]
    · rw [if_neg h, if_neg (by omega)]
theorem turnF_same (f : Nat → Nat) (o : List Nat) (k : Nat) (hk : k < 12) : (turnF f o k).set k (o.getD k 0) = turnF f o k := by
  refine ext12 (by rw [List.length_set, turnF_len]) (turnF_len _ _ _) fun i hi => ?_
  rw [List.getD_eq_getElem?_getD, List.getElem?_set]
  by_cases e : k = i
  · rw [if_pos e, if_pos (by rw [turnF_len]; omega), ← e, turnF_get f o k k hk, if_neg (Nat.lt_irrefl _)]; rfl
  · rw [if_neg e, ← List.getD_eq_getElem?_getD]
theorem getD12 {o : List Nat} (h : o.length = 12) {i : Nat} (hi : ¬ i < 12) : o.getD i 0 = 0 := by
  rw [List.getD_eq_getElem?_getD, List.getElem?_eq_none (by omega)]; rfl
theorem turnF_okt {n : Nat} {o : List Nat} (ok : Okt n o) {f : Nat → Nat} (hf : ∀ i, f i < 2 ^ n) (k : Nat) : Okt n (turnF f o k) :=
  ⟨ok.n1, ok.n12, turnF_len _ _ _, fun i => by
    by_cases hi : i < 12
    · rw [turnF_get f o k i hi]
      split
      · exact hf i
      · exact ok.lt i
    · rw [getD12 (turnF_len _ _ _) hi]; exact Nat.two_pow_pos n⟩
def rchN (o : List Nat) (i : Nat) : Nat := reachL o (memL (o.getD i 0)) (o.getD i 0)
def rchO (n : Nat) (o : List Nat) : List Nat := turnF (rchN o) o n
theorem rchO_okt {n : Nat} {o : List Nat} (ok : Okt n o) : Okt n (rchO n o) := turnF_okt ok (fun i => reachL_lt ok _ _ (ok.lt i)) n
theorem reachL_snoc' (o M : List Nat) (r k : Nat) (h : k < M.length) : reachL o (M.take (k + 1)) r = reachL o (M.take k) r ||| o.getD (M.getD k 0) 0 := by
  rw [List.take_succ_eq_append_getElem h]
  unfold reachL
  rw [List.foldl_append]
  simp [h]
theorem addr_add_block (a : Addr) (k : Nat) : (a.add k).block = a.block := by
  unfold Addr.add
  split <;> rfl
theorem C_far {w : World} {A : Option Addr} {n : Nat} {xs : List Int} {p : Addr} {v : Value} (h : Kd.C (Kd.int .i64) w A n xs) (hA : ∀ a, A = some a → a.block ≠ p.block) : Kd.C (Kd.int .i64) (w.setCell p v) A n xs := by
  obtain ⟨h1, h2, h3⟩ := h
  refine ⟨h1, h2, fun hp => ?_⟩
  obtain ⟨ad, e, hc⟩ := h3 hp
  refine ⟨ad, e, fun j p' hj => ?_⟩
  obtain ⟨c, hl, hk, hcell⟩ := hc j p' hj
  refine ⟨c, hl, hk, fun i u hu => ?_⟩
  have hne := hA ad e
  have h0 := hcell i u hu
  exact (World.cell?_setCell_far w p _ v (by rw [addr_add_block]; exact Ne.symm hne)).trans h0
theorem TnN.set_ {w : World} {g n : Nat} {o : List Nat} (h : TnN w g n o) (i v : Nat) : TnN (w.setCell ⟨g, 1 + i, none⟩ (.int .i64 (v : Nat))) g n (o.set i v) := by
  have h1 := Blk.set_ h (1 + i) (.int .i64 (v : Nat))
  have e : (tnA n (ints o)).setIfInBounds (1 + i) (.int .i64 (v : Nat)) = tnA n (ints (o.set i v)) := by
    rw [Nat.add_comm 1 i, tnA_set]
    simp only [ints, List.map_set]
  rw [e] at h1
  exact h1
theorem resultsT {f : Func} {c : Nat} (hf : f.results = #[.cell c 50]) (tmps : Array Value) (w : World) (g : Nat) (cs : Array Value) (hp : tmps.getD c undef = .pointer (some ⟨g, 0, none⟩)) (hb : Blk w g 50 cs) (hs : cs.size = 13) :
    (results f tmps).run Try.prog w = .ok (.agg cs) w := by
  have hp' : tmps[c]?.getD undef = .pointer (some ⟨g, 0, none⟩) := by simpa using hp
  simp [results, hf, hp', asAddr, run_loadVar_row w g 50 50 cs (0, 0) _ hb Try.underlying50 rfl (by rw [info50, hs])]
set_option maxHeartbeats 3200000 in
set_option maxRecDepth 100000 in
theorem reach_any (n : Nat) (o : List Nat) (w : World) (ok : Okt n o) :
    Calls Try.prog 91 #[.agg (tnN n o)] w fun e w' => e = .returned (.agg (tnN n (rchO n o))) ∧ Below w.heap.size w w' := by
  have n12 := ok.n12
  have HK := Aside0.mk ok
  have H1 := Aside0.mk (tn_one n (rchO n o))
  have HZ := Aside0.mk (tn_size n (rchO n o) (turnF_len _ _ _))
  have H1o := Aside0.mk (tn_one n o)
  have HZo := Aside0.mk (tn_size n o ok.len)
  have p12 : (2 : Nat) ^ n ≤ 4096 := (Nat.pow_le_pow_right (by decide) n12 : 2 ^ n ≤ 2 ^ 12)
  have HT0 : Aside0 (TnN ((w.alloc (.cells (tnN n o) 50)).alloc (.cells #[.int .i64 0, .int .i64 0, .int .i64 0, .int .i64 0, .int .i64 0, .int .i64 0, .int .i64 0, .int .i64 0, .int .i64 0, .int .i64 0, .int .i64 0, .int .i64 0, .int .i64 0] 50)) w.heap.size n o) := ⟨(Blk.new _ _ _).alloc _⟩
  have HT1 : Aside0 (TnN (((w.alloc (.cells (tnN n o) 50)).alloc (.cells #[.int .i64 0, .int .i64 0, .int .i64 0, .int .i64 0, .int .i64 0, .int .i64 0, .int .i64 0, .int .i64 0, .int .i64 0, .int .i64 0, .int .i64 0, .int .i64 0, .int .i64 0] 50)).alloc (.cells (tnN n o) 50)) w.heap.size n o) := ⟨((Blk.new _ _ _).alloc _).alloc _⟩
  have HO1 : Aside0 (TnN (((w.alloc (.cells (tnN n o) 50)).alloc (.cells #[.int .i64 0, .int .i64 0, .int .i64 0, .int .i64 0, .int .i64 0, .int .i64 0, .int .i64 0, .int .i64 0, .int .i64 0, .int .i64 0, .int .i64 0, .int .i64 0, .int .i64 0] 50)).alloc (.cells (tnN n o) 50)) (w.heap.size + 1 + 1) n (turnF (rchN o) o 0)) := ⟨by rw [turnF_zero _ _ ok.len]; exact Blk.new' (by simp)⟩
  have HR1 : Aside0 (Blk (((w.alloc (.cells (tnN n o) 50)).alloc (.cells #[.int .i64 0, .int .i64 0, .int .i64 0, .int .i64 0, .int .i64 0, .int .i64 0, .int .i64 0, .int .i64 0, .int .i64 0, .int .i64 0, .int .i64 0, .int .i64 0, .int .i64 0] 50)).alloc (.cells (tnN n o) 50)) (w.heap.size + 1) 50 (tnN 0 zero12)) := ⟨Blk.alloc (Blk.new' (by simp)) _⟩
  have HB1 : Aside0 (Below w.heap.size w (((w.alloc (.cells (tnN n o) 50)).alloc (.cells #[.int .i64 0, .int .i64 0, .int .i64 0, .int .i64 0, .int .i64 0, .int .i64 0, .int .i64 0, .int .i64 0, .int .i64 0, .int .i64 0, .int .i64 0, .int .i64 0, .int .i64 0] 50)).alloc (.cells (tnN n o) 50))) := ⟨below_alloc (below_alloc (below_alloc (Below.refl _ _) _) _) _⟩
  have HSR : Aside0 ((((w.alloc (.cells (tnN n o) 50)).alloc (.cells #[.int .i64 0, .int .i64 0, .int .i64 0, .int .i64 0, .int .i64 0, .int .i64 0, .int .i64 0, .int .i64 0, .int .i64 0, .int .i64 0, .int .i64 0, .int .i64 0, .int .i64 0] 50)).alloc (.cells #[.int .i64 0, .int .i64 0, .int .i64 0, .int .i64 0, .int .i64 0, .int .i64 0, .int .i64 0, .int .i64 0, .int .i64 0, .int .i64 0, .int .i64 0, .int .i64 0, .int .i64 0] 50)).setRow (w.heap.size + 1 + 1) (tnN n o) = ((w.alloc (.cells (tnN n o) 50)).alloc (.cells #[.int .i64 0, .int .i64 0, .int .i64 0, .int .i64 0, .int .i64 0, .int .i64 0, .int .i64 0, .int .i64 0, .int .i64 0, .int .i64 0, .int .i64 0, .int .i64 0, .int .i64 0] 50)).alloc (.cells (tnN n o) 50)) := ⟨by have h := World.setRow_alloc_new ((w.alloc (.cells (tnN n o) 50)).alloc (.cells #[.int .i64 0, .int .i64 0, .int .i64 0, .int .i64 0, .int .i64 0, .int .i64 0, .int .i64 0, .int .i64 0, .int .i64 0, .int .i64 0, .int .i64 0, .int .i64 0, .int .i64 0] 50)) #[.int .i64 0, .int .i64 0, .int .i64 0, .int .i64 0, .int .i64 0, .int .i64 0, .int .i64 0, .int .i64 0, .int .i64 0, .int .i64 0, .int .i64 0, .int .i64 0, .int .i64 0] (tnN n o) 50; rw [show ((w.alloc (.cells (tnN n o) 50)).alloc (.cells #[.int .i64 0, .int .i64 0, .int .i64 0, .int .i64 0, .int .i64 0, .int .i64 0, .int .i64 0, .int .i64 0, .int .i64 0, .int .i64 0, .int .i64 0, .int .i64 0, .int .i64 0] 50)).heap.size = w.heap.size + 1 + 1 by simp] at h; exact h⟩
  have c00 : (tnN n o)[0]? = some (.int .i64 (n : Nat)) := rfl
  clear ok
  go_enter Try.func91, Try.ntmps91
  go_wp2_with (first | (refine wpList_store_row rfl 50 _ _ rfl (w.heap.size + 1 + 1) (tnN n o) rfl rfl 50 (tnN 0 zero12) (Blk.new' (by simp)) (by rw [info50, HZo.out]) (by rw [HZo.out]; rfl) H1o.out ?_; rw [HSR.out]) | (refine wpList_load_row rfl 50 _ rfl w.heap.size rfl 50 (tnN n o) (0, 0) _ HT0.out Try.underlying50 rfl (by rw [info50, HZo.out]) ?_))
  generalize ((w.alloc (.cells (tnN n o) 50)).alloc (.cells #[.int .i64 0, .int .i64 0, .int .i64 0, .int .i64 0, .int .i64 0, .int .i64 0, .int .i64 0, .int .i64 0, .int .i64 0, .int .i64 0, .int .i64 0, .int .i64 0, .int .i64 0] 50)).alloc (.cells (tnN n o) 50) = W0 at *
  generalize hg : w.heap.size = g at *
  have HBg : Aside0 (Below w.heap.size w W0) := ⟨by rw [hg]; exact HB1.out⟩
  have HG := Aside0.mk hg
  clear hg c00 HB1 HSR HT0
  have hbg : ∀ (W1 W2 : World) (x : Value), W1.grownBy W2 (some (g + 1 + 1)) → Below w.heap.size w W1 → Below w.heap.size w W2 := fun W1 W2 x h1 h2 => gb_below_new h2 h1 (fun g' h => by cases h; rw [HG.out]; omega)
  have HBG := Aside0.mk hbg
  clear hbg
  go_loopw [10] (fun v10 wr => ∃ k : Nat, k ≤ n ∧ v10 = .int .i64 (k : Int) ∧ Aside0 (TnN wr g n o) ∧ Aside0 (TnN wr (g + 1 + 1) n (turnF (rchN o) o k)) ∧ Aside0 (Blk wr (g + 1) 50 (tnN 0 zero12)) ∧ Aside0 (Below w.heap.size w wr)) (fun v _ => n - (intOf v).toNat)
  case atStart => exact ⟨0, Nat.zero_le _, rfl, HT1, HO1, HR1, HBg⟩
  case round =>
    clear HT1 HO1 HR1 HBg
    obtain ⟨k, hk, rfl, HT, HO, HR, HB⟩ := hrel
    by_cases hkn : k < n
    · have k0 : (0 : Int) ≤ k := by omega
      have k1 : (k : Int) < 12 := by omega
      have ck := TnN.cellS HT.out k (by rw [HK.out.len]; omega)
      rw [Nat.add_comm k 1] at ck
      have hokl := HK.out.lt12 k
      have hset := turnF_set (rchN o) o k (by omega)
      have hsame := turnF_same (rchN o) o k (by omega)
      have ew : rchN o k = reachL o (memL (o.getD k 0)) (o.getD k 0) := rfl
      rw [ew] at hset
      have HRL := Aside0.mk (fun q => reachL_lt HK.out ((memL (o.getD k 0)).take q) (o.getD k 0) (HK.out.lt k))
      have HM := Aside0.mk (fun (x : Nat) (hx : x ∈ memL (o.getD k 0)) => memL_lt hx)
      have hmm := members_any (o.getD k 0) wr hokl
      rw [show mem12 (o.getD k 0) 0 = memL (o.getD k 0) from rfl] at hmm
      have hlen := memL_len (o.getD k 0)
      generalize memL (o.getD k 0) = M at *
      generalize o.getD k 0 = ok at *
      have HMm := Aside0.mk hmm
      have HS := Aside0.mk hset
      have HO0 : Aside0 (TnN wr (g + 1 + 1) n ((turnF (rchN o) o k).set k (reachL o (M.take 0) ok))) := ⟨by rw [List.take_zero]; show TnN wr (g + 1 + 1) n ((turnF (rchN o) o k).set k ok); rw [hsame]; exact HO.out⟩
      clear hset hsame ew hmm HO
      go_wp2_with fail
      refine HMm.out.mono ?_
      rintro e w1 ⟨v, rfl, hr, hb⟩
      have HB1 := Aside0.mk (below_then HB.out HB.out.size hb)
      have HT1 := Aside0.mk (Blk.later HT.out hb)
      have HO1 := Aside0.mk (Blk.later HO0.out hb)
      have HR1 := Aside0.mk (Blk.later HR.out hb)
      obtain ⟨A, c, rfl, hlc, hC⟩ := Kd.R_reads hr
      have hsz := hb.size
      have hil : (ints M).length = M.length := ints_length M
      have hvb : ∀ b, A = some b → wr.heap.size ≤ b.block := fun b e => hr.1 b.block (by rw [e]; rfl) |> fun _ => Kd.R_base hr b.block (by rw [e]; rfl)
      have hgs : g + 1 + 1 < wr.heap.size := Blk.lt HO0.out
      have HNE : Aside0 (∀ b, A = some b → b.block ≠ g + 1 + 1) := ⟨fun b e => by have := hvb b e; omega⟩
      have HC := Aside0.mk hC
      clear hC hr hb HT HO0 HR HB HMm hvb
      rw [hil] at hlc HC ⊢
      clear hil
      go_wp2_with fail
      obtain ⟨W1, rfl⟩ : ∃ W1 : World, W1 = w1 := ⟨_, rfl⟩
      go_loopw [19] (fun v19 wx => ∃ q : Nat, q ≤ M.length ∧ v19 = .int .i64 (q : Int) ∧ Aside0 (TnN wx g n o) ∧ Aside0 (TnN wx (g + 1 + 1) n ((turnF (rchN o) o k).set k (reachL o (M.take q) ok))) ∧ Aside0 (Blk wx (g + 1) 50 (tnN 0 zero12)) ∧ Aside0 (Below w.heap.size w wx) ∧ Aside0 (Kd.C (Kd.int .i64) wx A M.length (ints M))) (fun v _ => M.length - (intOf v).toNat)
      case atStart => exact ⟨0, Nat.zero_le _, rfl, HT1, HO1, HR1, HB1, HC⟩
      case round =>
        clear HT1 HO1 HR1 HB1 HC
        obtain ⟨q, hq, rfl, HT, HO, HR, HB, HC⟩ := hrel
        by_cases hqm : q < M.length
        · obtain ⟨ad, rfl, cm⟩ := Kd.at_int HC.out (q : Int) (by omega) (by omega)
          rw [rd_ints, Int.toNat_natCast] at cm
          have hj := HM.out (M.getD q 0) (by rw [List.getD_eq_getElem?_getD, List.getElem?_eq_getElem hqm]; exact List.getElem_mem hqm)
          have hsn := reachL_snoc' o M ok q hqm
          obtain ⟨j, hjj⟩ : ∃ j, M.getD q 0 = j := ⟨_, rfl⟩
          rw [hjj] at cm hj hsn
          have cj := TnN.cellS HT.out j (by rw [HK.out.len]; exact hj)
          rw [Nat.add_comm j 1] at cj
          have hojl := HK.out.lt12 j
          have hrl := HRL.out q
          have hsl : ((turnF (rchN o) o k).set k (reachL o (M.take q) ok)).length = 12 := by rw [List.length_set, turnF_len]
          have co := TnN.cellS HO.out k (by rw [hsl]; omega)
          rw [Nat.add_comm k 1, List.getD_eq_getElem?_getD, List.getElem?_set_self (by rw [turnF_len]; omega), Option.getD_some] at co
          have fo := Blk.frozen HO.out (1 + k)
          have hor := b_or (reachL o (M.take q) ok) (o.getD j 0) (by omega) (by omega)
          rw [← hsn] at hor
          have HOR := Aside0.mk hor
          have HO2 := Aside0.mk (TnN.set_ HO.out k (reachL o (M.take (q + 1)) ok))
          rw [List.set_set] at HO2
          have j0 : (0 : Int) ≤ j := by omega
          have j1 : (j : Int) < 12 := by omega
          have HNE2 : Aside0 (ad.block ≠ g + 1 + 1) := ⟨HNE.out ad rfl⟩
          clear hsn hjj hor hsl
          generalize o.getD j 0 = oj at *
          generalize reachL o (M.take q) ok = r at *
          go_wp2_with fail
          refine wp_still_tail 11 (by kernel_rfl) (by kernel_rfl) ?_
          simp only [List.take_succ_cons, List.take_zero, List.drop_succ_cons, List.drop_zero]
          iterate 11 (refine wpStill_step (fun K hK => ?_); go_simp; refine hK _ ?_; clear hK K)
          refine wpStill_nil ?_
          go_wp2_with fail
          go_roundw
          case rel =>
            refine ⟨q + 1, by omega, by go_num, ⟨?_⟩, ⟨?_⟩, ⟨Blk.far (Blk.drew HR.out) (by simp) _⟩, ⟨HBG.out _ _ (.int .i64 0) (gb_set _ _ _) (below_drew HB.out)⟩, ⟨?_⟩⟩
            · exact Blk.far (Blk.drew HT.out) (by simp; omega) _
            · rw [HOR.out]
              exact HO2.out
            · exact Kd.C_below (C_far HC.out (fun a e => by cases e; exact HNE2.out)) (below_drew (Below.refl _ _))
          case measure => simp [intOf]; omega
        · obtain rfl : q = M.length := by omega
          rw [List.take_length, HS.out] at HO
          go_wp2_with fail
          go_roundw
          case rel => exact ⟨k + 1, by omega, by go_num, HT, HO, HR, HB⟩
          case measure => simp [intOf]; omega
    · obtain rfl : n = k := by omega
      have HLd : Aside0 (TnN wr (g + 1 + 1) n (rchO n o)) := HO
      go_wp2_with (first | (refine wpList_store_row rfl 50 _ _ rfl (g + 1) (tnN n (rchO n o)) rfl rfl 50 (tnN 0 zero12) HR.out (by rw [info50, HZ.out]) (by rw [HZ.out]; rfl) H1.out ?_) | (refine wpList_load_row rfl 50 _ rfl (g + 1 + 1) rfl 50 (tnN n (rchO n o)) (0, 0) _ HLd.out Try.underlying50 rfl (by rw [info50, HZ.out]) ?_))
      exact bodyPost_ret (resultsT (f := Try.f91) (c := 2) rfl _ _ (g + 1) _ rfl (Blk.row HR.out _) HZ.out) rfl ⟨rfl, gb_below_new HB.out (gb_row _ _ _) (fun g' h => by cases h; rw [HG.out]; omega)⟩
end Go.Proofs.Ytmobefgnkiboaaa.Im

namespace Go.Proofs.Ytmobefgnkiboaaa.Im
open Go.RowKit Go.Proofs.YtmobefgnkiboaaaW.PrintWords Go.Proofs.YtmobefgnkiboaaaW.PrintLast Go.Proofs.YtmobefgnkiboaaaW.PrintMore
set_option linter.unusedVariables false
/-- The load of a whole row where it is guarded, and wanted. -/
theorem wpList_load_row_w {P : Program} {ops : Array Oper} {rest : List Oper} {o : Oper} {a : Act} {w : World} {Q : Exit → Act → World → Prop} (hw : Region.wanted o (yielded ops a.tmps) = true) (ty : TypeId) (x : Operand) (ho : o.op = .load ty x)
    (g : Nat) (hx : a.eval x = .pointer (some ⟨g, 0, none⟩)) (t : TypeId) (cs : Array Value) (fr : Nat × Nat) (d : TypeDesc) (hg : w.heap[g]? = some (.cells cs t fr))
    (hu : P.underlying ty = some d) (hd : (match d with | .struct _ | .array _ _ => true | _ => false) = true) (hi : (P.info? ty).map (·.size) = some cs.size)
    (h : wpList P ops Q rest (a.put o.dst (.agg cs)) w) : wpList P ops Q (o :: rest) a w :=
  wpList_step fun _ hK => by rw [if_pos hw]; exact wp_load_row ty x ho g hx t cs fr d hg hu hd hi (hK _ _ h)
def quaB (n : Nat) (o : List Nat) (s : Nat) : Bool := AllB n (indB o s) (absB (rchO n o) s (2 ^ n - 1))
set_option maxHeartbeats 1600000 in
set_option maxRecDepth 100000 in
theorem quasi_any (n : Nat) (o : List Nat) (s : Nat) (w : World) (ok : Okt n o) (hs : s < 4096) :
    Calls Try.prog 78 #[.agg (tnN n o), .int .i64 (s : Nat)] w fun e w' => e = .returned (.bool (quaB n o s)) ∧ Below w.heap.size w w' := by
  have n12 := ok.n12
  have hp : 2 ^ n - 1 < 2 ^ 62 := by have : 2 ^ n < 2 ^ 62 := Nat.pow_lt_pow_right (by decide) (by omega); omega
  have HS : TnN (w.alloc (.cells (tnN n o) 50)).drew w.heap.size n o ∧ Below w.heap.size w (w.alloc (.cells (tnN n o) 50)).drew := ⟨Blk.new _ _ _, below_drew (below_alloc (Below.refl _ _) _)⟩
  unfold quaB
  go_enter Try.func78, Try.ntmps78
  go_wp2_with fail
  refine wp_region_held (S := fun wx => TnN wx w.heap.size n o ∧ Below w.heap.size w wx) (by kernel_rfl) ?_
  refine tk (i := 0) 5 (v := .agg (tnN n o)) rfl rfl (by kernel_rfl) (by kernel_rfl) (by kernel_rfl) (fun _ _ _ h => h) (by kernel_rfl) (fun wx h => ex_load_tn rfl wx w.heap.size n o rfl h.1 ok.len) HS ?_
  simp only [pt_lit, List.set_cons_succ, List.set_cons_zero]
  refine tk (i := 1) 6 (v := .agg (tnN n o)) rfl rfl (by kernel_rfl) (by kernel_rfl) (by kernel_rfl) (fun _ _ _ h => h) (by kernel_rfl) (fun wx h => ex_load_tn rfl wx w.heap.size n o rfl h.1 ok.len) HS ?_
  simp only [pt_lit, List.set_cons_succ, List.set_cons_zero]
  refine tk (i := 2) 7 (v := .int .i64 (s : Nat)) rfl rfl (by kernel_rfl) (by kernel_rfl) (by kernel_rfl) (fun _ _ _ h => h) (by kernel_rfl) (fun wx _ => by kernel_rfl) HS ?_
  simp only [pt_lit, List.set_cons_succ, List.set_cons_zero]
  refine tk (i := 4) 9 (v := .agg (tnN n o)) rfl rfl (by kernel_rfl) (by kernel_rfl) (by kernel_rfl) (fun _ _ _ h => h) (by kernel_rfl) (fun wx h => ex_load_tn rfl wx w.heap.size n o rfl h.1 ok.len) HS ?_
  simp only [pt_lit, List.set_cons_succ, List.set_cons_zero]
  refine tk (i := 6) 11 (v := .int .i64 (s : Nat)) rfl rfl (by kernel_rfl) (by kernel_rfl) (by kernel_rfl) (fun _ _ _ h => h) (by kernel_rfl) (fun wx _ => by kernel_rfl) HS ?_
  simp only [pt_lit, List.set_cons_succ, List.set_cons_zero]
  refine tk (i := 7) 12 (v := .agg (tnN n o)) rfl rfl (by kernel_rfl) (by kernel_rfl) (by kernel_rfl) (fun _ _ _ h => h) (by kernel_rfl) (fun wx h => ex_load_tn rfl wx w.heap.size n o rfl h.1 ok.len) HS ?_
  simp only [pt_lit, List.set_cons_succ, List.set_cons_zero]
  refine rc (i := 3) 8 (f := 61) (args := #[.agg (tnN n o), .int .i64 (s : Nat)]) (by kernel_rfl) rfl rfl (by kernel_rfl) (by kernel_rfl) ?_
  refine (indep_any n o s _ ok (by omega)).mono ?_
  rintro e w1 ⟨cap1, rfl, T1, hb1⟩
  have HS1 : TnN w1 w.heap.size n o ∧ Below w.heap.size w w1 := ⟨Blk.later HS.1 hb1, below_then HS.2 HS.2.size hb1⟩
  refine ⟨_, rfl, HS1, ?_⟩
  simp only [pt_lit, List.set_cons_succ, List.set_cons_zero]
  refine rc (i := 5) 10 (f := 91) (args := #[.agg (tnN n o)]) (by kernel_rfl) rfl rfl (by kernel_rfl) (by kernel_rfl) ?_
  refine (reach_any n o _ ok).mono ?_
  rintro e w2 ⟨rfl, hb2⟩
  have HS2 : TnN w2 w.heap.size n o ∧ Below w.heap.size w w2 := ⟨Blk.later HS1.1 hb2, below_then HS1.2 HS1.2.size hb2⟩
  refine ⟨_, rfl, HS2, ?_⟩
  simp only [pt_lit, List.set_cons_succ, List.set_cons_zero]
  refine rc (i := 8) 13 (f := 57) (args := #[.agg (tnN n o)]) (by kernel_rfl) rfl rfl (by kernel_rfl) (by kernel_rfl) ?_
  refine (everybody_any n o _ n12).mono ?_
  rintro e w3 ⟨rfl, hb3⟩
  have HS3 : TnN w3 w.heap.size n o ∧ Below w.heap.size w w3 := ⟨Blk.later HS2.1 hb3, below_then HS2.2 HS2.2.size hb3⟩
  refine ⟨_, rfl, HS3, ?_⟩
  simp only [pt_lit, List.set_cons_succ, List.set_cons_zero]
  refine rc (i := 9) 14 (f := 62) (args := #[.agg (tnN n (rchO n o)), .int .i64 (s : Nat), .int .i64 (2 ^ n - 1 : Nat)]) (by kernel_rfl) rfl rfl (by kernel_rfl) (by kernel_rfl) ?_
  refine (absb_any n (rchO n o) s (2 ^ n - 1) _ (rchO_okt ok) (by omega) hp).mono ?_
  rintro e w4 ⟨cap2, rfl, T2, hb4⟩
  have HS4 : TnN w4 w.heap.size n o ∧ Below w.heap.size w w4 := ⟨Blk.later HS3.1 hb4, below_then HS3.2 HS3.2.size hb4⟩
  refine ⟨_, rfl, HS4, ?_⟩
  simp only [pt_lit, List.set_cons_succ, List.set_cons_zero]
  have hb5 : Below w4.heap.size w4 (w4.alloc (.cells #[.func (.func 86) #[] cap1, .func (.func 87) #[] cap2] 62)) := below_alloc (Below.refl _ _) _
  have hB := Blk.new w4 62 #[.func (.func 86) #[] cap1, .func (.func 87) #[] cap2]
  have HS5 : TnN (w4.alloc (.cells #[.func (.func 86) #[] cap1, .func (.func 87) #[] cap2] 62)) w.heap.size n o ∧ Below w.heap.size w (w4.alloc (.cells #[.func (.func 86) #[] cap1, .func (.func 87) #[] cap2] 62)) := ⟨Blk.later HS4.1 hb5, below_then HS4.2 HS4.2.size hb5⟩
  refine rv 15 (i := 10) (v := .slice (some ⟨w4.heap.size, 0, none⟩) 2 2) (w' := w4.alloc (.cells #[.func (.func 86) #[] cap1, .func (.func 87) #[] cap2] 62)) (by kernel_rfl) rfl rfl (by kernel_rfl) (by kernel_rfl) HS5 ?_
  simp only [pt_lit, List.set_cons_succ, List.set_cons_zero]
  refine rc (i := 11) 16 (f := 60) (args := #[.agg (tnN n o), .slice (some ⟨w4.heap.size, 0, none⟩) 2 2]) (by kernel_rfl) rfl rfl (by kernel_rfl) (by kernel_rfl) ?_
  refine (all_any n o 86 87 cap1 cap2 _ _ _ _ ok (by rw [hB.cell]; rfl) (by rw [hB.cell]; rfl) ((((T1.later hb2).later hb3).later hb4).later hb5) (T2.later hb5)).mono ?_
  rintro e w6 ⟨rfl, hb6⟩
  have HS6 : TnN w6 w.heap.size n o ∧ Below w.heap.size w w6 := ⟨Blk.later HS5.1 hb6, below_then HS5.2 HS5.2.size hb6⟩
  refine ⟨_, rfl, HS6, ?_⟩
  simp only [pt_lit, List.set_cons_succ, List.set_cons_zero]
  refine tk (i := 12) 4 (v := .bool (AllB n (indB o s) (absB (rchO n o) s (2 ^ n - 1)))) rfl rfl (by kernel_rfl) (by kernel_rfl) (by kernel_rfl) (fun _ _ _ h => h) (by kernel_rfl) (fun wx _ => by kernel_rfl) HS6 ?_
  simp only [pt_lit, List.set_cons_succ, List.set_cons_zero]
  refine wpAnyH_done (by kernel_rfl) ?_ _
  go_wp2_with fail
  go_ret
  exact ⟨rfl, HS6.2⟩
/-- A bound method that is a test of sets. -/
structure HasQ (w : World) (f : FuncId) (x : Value) (has : Nat → Bool) : Prop where
  enter : ∀ (args : Array Value) (w : World), (callFunc f args).run Try.prog w = .ok (.enter f args) w
  calls : ∀ s, s < 4096 → ∀ w', Below w.heap.size w w' → Calls Try.prog f #[x, .int .i64 (s : Nat)] w' (fun e w'' => e = .returned (.bool (has s)) ∧ Below w'.heap.size w' w'')
theorem HasQ.later {w w1 : World} {f : FuncId} {x : Value} {p : Nat → Bool} (h : HasQ w f x p) (hb : Below w.heap.size w w1) : HasQ w1 f x p :=
  ⟨h.enter, fun i hi w' hw => h.calls i hi w' (below_then hb hb.size hw)⟩
/-- What 'first' holds while it tries sets with a bound method. -/
structure FirstQ (gout gh base : Nat) (w0 : World) (f : FuncId) (x : Value) (has : Nat → Bool) (st : List Nat) (w : World) : Prop where
  out : ∃ v, Blk w gout 25 #[v] ∧ Kd.R (Kd.int .i64) 3 w base (fun _ => True) v (ints st)
  bh : Blk w gh 62 #[.func (.func f) #[x] #[]]
  ne : gh ≠ gout
  hc : HasQ w0 f x has
  bel : Below base w0 w
  size : base ≤ w.heap.size
  b1 : base ≤ gout
  b0 : base = w0.heap.size
theorem FirstQ.keep {gout gh base : Nat} {w0 : World} {f : FuncId} {x : Value} {has : Nat → Bool} {st : List Nat} {w w' : World} (h : FirstQ gout gh base w0 f x has st w) (hg : w.grownBy w' none) : FirstQ gout gh base w0 f x has st w' := by
  obtain ⟨⟨v, hb, hr⟩, h2, h3, h4, h5, h6, h7, h8⟩ := h
  exact ⟨⟨v, hb.gb hg (by simp), Kd.R_below hr (below_gb hg)⟩, h2.gb hg (by simp), h3, h4, h5.grown hg h6 (fun k hk => by cases hk), Nat.le_trans h6 hg.size, h7, h8⟩
set_option maxHeartbeats 1600000 in
set_option maxRecDepth 100000 in
theorem firstQ1_any (gout gh base : Nat) (w0 : World) (f : FuncId) (x : Value) (has : Nat → Bool) (st : List Nat) (s : Nat) (w : World) (hs : s < 4096) (h : FirstQ gout gh base w0 f x has st w) :
    Calls Try.prog 85 #[.int .i64 s, .pointer (some ⟨gout, 0, none⟩), .pointer (some ⟨gh, 0, none⟩)] w
      (fun e w' => e = .returned (.bool (has s)) ∧ FirstQ gout gh base w0 f x has (memL s) w' ∧ w.grownBy w' (some gout)) := by
  have HH := Aside0.mk h
  clear h
  go_enter Try.func85, Try.ntmps85
  go_wp2_with fail
  refine (members_any s _ hs).mono ?_
  rintro e w1 ⟨v, rfl, hr, hb⟩
  obtain ⟨⟨v0, hb0, hr0⟩, h2, h3, h4, h5, h6, h7, h8⟩ := HH.out
  obtain ⟨A, c, rfl, hlc, hC⟩ := Kd.R_reads hr
  have k1 := hb0.later hb
  have k2 := h2.later hb
  have c1 : w1.cell? ⟨gout, 0, none⟩ = some v0 := k1.cell 0
  have c2 : w1.frozen? ⟨gout, 0, none⟩ = false := k1.frozen 0
  have k3 := Blk.set_ k1 0 (.slice A (ints (mem12 s 0)).length c)
  have k4 := Blk.far k2 (p := ⟨gout, 0, none⟩) h3 (.slice A (ints (mem12 s 0)).length c)
  have c3 : (w1.setCell ⟨gout, 0, none⟩ (.slice A (ints (mem12 s 0)).length c)).cell? ⟨gh, 0, none⟩ = some (.func (.func f) #[x] #[]) := k4.cell 0
  have g1 : w.grownBy (w1.setCell ⟨gout, 0, none⟩ (.slice A (ints (mem12 s 0)).length c)) (some gout) := gb_trans (gb_below hb) (gb_set _ _ _)
  have b1 : Below base w0 (w1.setCell ⟨gout, 0, none⟩ (.slice A (ints (mem12 s 0)).length c)) := h5.grown g1 h6 (fun k hk => by cases hk; exact h7)
  have r1 : Kd.R (Kd.int .i64) 3 (w1.setCell ⟨gout, 0, none⟩ (.slice A (ints (mem12 s 0)).length c)) base (fun _ => True) (.slice A (ints (mem12 s 0)).length c) (ints (memL s)) :=
    Kd.R_lower (Kd.R_set hr k1 (by decide) 0 _) h6
  have E0 := h4.enter
  have KK := Aside0.mk (And.intro k3 (And.intro k4 (And.intro g1 (And.intro b1 r1))))
  have HC := Aside0.mk h4
  have H6 := Aside0.mk (Nat.le_trans h6 g1.size)
  have H7 := Aside0.mk h7
  have H8 := Aside0.mk h8
  have H3 := Aside0.mk h3
  clear k3 k4 g1 b1 r1 k1 k2 hC hr hb h2 h3 h4 h5 h6 h7 h8 hb0 hr0 HH
  go_wp2_with fail
  have hbb := KK.out.2.2.2.1
  rw [H8.out] at hbb
  refine (HC.out.calls s hs _ hbb).mono ?_
  rintro e w2 ⟨rfl, hb2⟩
  have FB := Aside0.mk hb2
  clear hb2 hbb
  go_wp2_with fail
  go_ret
  obtain ⟨k3, k4, g1, b1, r1⟩ := KK.out
  exact ⟨rfl, FirstQ.keep ⟨⟨_, k3, r1⟩, k4, H3.out, HC.out, b1, H6.out, H7.out, H8.out⟩ (gb_below FB.out), gb_trans g1 (gb_below FB.out)⟩
set_option maxHeartbeats 1600000 in
set_option maxRecDepth 100000 in
theorem firstQ_any (n : Nat) (o : List Nat) (f : FuncId) (x : Value) (has : Nat → Bool) (w : World) (ok : Okt n o) (hc : HasQ w f x has) :
    Calls Try.prog 54 #[.agg (tnN n o), .func (.func f) #[x] #[]] w (FirstR w (firstS has n)) := by
  have hmf : ∀ (fn : Fn) (first cap : Array Value) (w : World), (Instr.makeFunc fn first cap).run Try.prog w = .ok (.func fn first cap) w := fun _ _ _ _ => rfl
  have n12 := ok.n12
  have hpn := pow12_lt n n12
  have V : Visit (FirstQ (w.heap.size + 1 + 1) (w.heap.size + 1) w.heap.size w f x has) (some (w.heap.size + 1 + 1)) 85 #[.pointer (some ⟨w.heap.size + 1 + 1, 0, none⟩), .pointer (some ⟨w.heap.size + 1, 0, none⟩)] (visF has) :=
    ⟨cf85, fun st w1 w2 h hg => h.keep hg, fun st s w1 hs h => firstQ1_any _ _ _ _ _ _ _ st s w1 hs h⟩
  obtain ⟨st', hon⟩ := onL_onF has (mem12 (2 ^ n - 1) 0) 0 []
  have hfs : firstS has n = onF has (mem12 (2 ^ n - 1) 0) 0 := rfl
  rw [hfs]
  clear hfs
  generalize onF has (mem12 (2 ^ n - 1) 0) 0 = r at *
  have HO := Aside0.mk hon
  have HC := Aside0.mk hc
  have HV := Aside0.mk V
  have HT : Aside0 (TnN ((w.alloc (.cells (tnN n o) 50)).alloc (.cells #[.func (.func f) #[x] #[]] 62) |>.alloc (.cells #[.slice none 0 0] 25)) w.heap.size n o) := ⟨((Blk.new w 50 (tnN n o)).alloc _).alloc _⟩
  clear hon hc V
  go_enter Try.func54, Try.ntmps54
  go_wp2_with (first | (refine wpList_load_row rfl 50 _ rfl w.heap.size rfl 50 (tnN n o) (0, 0) _ HT.out Try.underlying50 rfl (tn_info _ _ ok.len) ?_) | (go_at_call 57; refine (everybody_any n o _ n12).mono ?_; rintro e w1 ⟨rfl, hb1⟩))
  have HW := Aside0.mk (below_then (below_alloc (below_alloc (below_alloc (Below.refl _ w) (.cells (tnN n o) 50)) (.cells #[.func (.func f) #[x] #[]] 62)) (.cells #[.slice none 0 0] 25)) (by simp; omega) hb1)
  have hI : FirstQ (w.heap.size + 1 + 1) (w.heap.size + 1) w.heap.size w f x has [] w1 :=
    ⟨⟨.slice none 0 0, (Blk.new' (by simp)).later hb1, Kd.R_nil _ _ _ _ _⟩, ((Blk.new' (by simp)).alloc _).later hb1, by omega, HC.out, HW.out, HW.out.size, by omega, rfl⟩
  refine (each_any HV.out (2 ^ n - 1) hpn [] _ hI (fun g h => by cases h; have := hb1.size; simp at this; omega)).mono ?_
  rintro e w2 ⟨rfl, hI2, hg2⟩
  rw [HO.out] at hI2 ⊢
  have HW2 := Aside0.mk (HW.out.grown hg2 HW.out.size (fun k hk => by cases hk; omega))
  clear hg2 hI hb1 HT HO
  cases r
  · clear hI2
    go_wp2_with fail
    go_ret2
    exact ⟨rfl, HW2.out⟩
  · obtain ⟨⟨v, hb, hr⟩, _⟩ := hI2
    have HR := Aside0.mk hr
    have c1 := hb.cell 0
    simp only [List.getElem?_toArray, List.getElem?_cons_zero] at c1
    clear hb hr
    go_wp2_with fail
    go_ret2
    exact ⟨v, rfl, HR.out, HW2.out⟩
def QuasiPost (n : Int) (l : List S43) (w : World) (e : Ending) (w' : World) : Prop :=
  if ofE n l = 0 then FirstR w (firstS (fun s => quaB n.toNat (townO l) s) n.toNat) e w'
  else e = .returned (.tuple #[.slice none 0 0, .int .i64 (ofE n l)]) ∧ Below w.heap.size w w'
theorem cf78 (args : Array Value) (w : World) : (callFunc 78 args).run Try.prog w = .ok (.enter 78 args) w := by kernel_rfl
set_option maxHeartbeats 1600000 in
set_option maxRecDepth 100000 in
theorem QuasiP_any (n : Int) (A : Option Addr) (c : Nat) (l : List S43) (w : World) (hr : Kd.C k43 w A l.length l) (hc : l.length ≤ c) :
    Calls Try.prog 41 #[.int .i64 n, .slice A l.length c] w (QuasiPost n l w) := by
  have hmf : ∀ (fn : Fn) (first cap : Array Value) (w : World), (Instr.makeFunc fn first cap).run Try.prog w = .ok (.func fn first cap) w := fun _ _ _ _ => rfl
  have HO := Aside0.mk (of_A n A c l w hr hc)
  have HZ := Aside0.mk (ofA_size n l)
  have H1 := Aside0.mk (ofA_one n l)
  clear hr hc
  by_cases he : ofE n l = 0
  · have ok := okt_of he
    have hA : ofA n l = tnN n.toNat (townO l) := by rw [ofA, if_pos he]
    have hK : QuasiPost n l w = FirstR w (firstS (fun s => quaB n.toNat (townO l) s) n.toNat) := by funext e w'; simp [QuasiPost, he]
    obtain ⟨r, hr0⟩ : ∃ r, firstS (fun s => quaB n.toNat (townO l) s) n.toNat = r := ⟨_, rfl⟩
    rw [hK, hr0]
    have HR0 := Aside0.mk hr0
    clear hr0
    rw [hA] at HO HZ H1
    rw [he] at HO
    have HK := Aside0.mk ok
    clear he hA ok hK
    go_enter Try.func41, Try.ntmps41
    go_wp2_with fail
    refine HO.out.mono ?_
    rintro e w1 ⟨rfl, hb⟩
    have HB := Aside0.mk hb
    clear hb HO
    have HT : Aside0 (TnN (w1.alloc (.cells (tnN n.toNat (townO l)) 50)) w1.heap.size n.toNat (townO l)) := ⟨Blk.new _ _ _⟩
    go_wp2_with (first | (refine wpList_store_row rfl 50 _ _ rfl w1.heap.size (tnN n.toNat (townO l)) rfl rfl 50 (tnN 0 zero12) (heap_alloc_new w1 _) (by rw [info50, HZ.out]) (by rw [HZ.out]; rfl) H1.out ?_; rw [World.setRow_alloc_new]) | (refine wpList_load_row rfl 50 _ rfl w1.heap.size rfl 50 (tnN n.toNat (townO l)) (0, 0) _ HT.out Try.underlying50 rfl (by rw [info50, HZ.out]) ?_))
    have HB2 := Aside0.mk (below_alloc HB.out (.cells (tnN n.toNat (townO l)) 50))
    have HH : HasQ (w1.alloc (.cells (tnN n.toNat (townO l)) 50)) 78 (.agg (tnN n.toNat (townO l))) (fun s => quaB n.toNat (townO l) s) := ⟨cf78, fun s hs w2 hw2 => quasi_any n.toNat (townO l) s w2 HK.out hs⟩
    refine (firstQ_any n.toNat (townO l) 78 (.agg (tnN n.toNat (townO l))) (fun s => quaB n.toNat (townO l) s) _ HK.out HH).mono ?_
    intro e w2 h2
    rw [HR0.out] at h2
    clear HR0 HH
    cases r with
    | none =>
      obtain ⟨rfl, hb2⟩ := h2
      have HB3 := Aside0.mk (below_then HB2.out HB2.out.size hb2)
      clear hb2
      go_wp2_with fail
      go_ret2
      exact ⟨rfl, HB3.out⟩
    | some x =>
      obtain ⟨v, rfl, hr2, hb2⟩ := h2
      have HB3 := Aside0.mk (below_then HB2.out HB2.out.size hb2)
      have HR := Aside0.mk (Kd.R_lower hr2 HB2.out.size)
      clear hb2 hr2
      go_wp2_with fail
      go_ret2
      exact ⟨v, rfl, HR.out, HB3.out⟩
  · have hK : QuasiPost n l w = fun e w' => e = .returned (.tuple #[.slice none 0 0, .int .i64 (ofE n l)]) ∧ Below w.heap.size w w' := by funext e w'; simp [QuasiPost, he]
    rw [hK]
    have hb : (ofE n l != 0) = true := bne_iff_ne.2 he
    have hb' : (ofE n l == 0) = false := beq_eq_false_iff_ne.2 he
    clear hK he
    generalize ofE n l = er at *
    go_enter Try.func41, Try.ntmps41
    go_wp2_with fail
    refine HO.out.mono ?_
    rintro e w1 ⟨rfl, hb⟩
    have HB := Aside0.mk hb
    clear hb HO
    go_wp2_with (refine wpList_store_row rfl 50 _ _ rfl w1.heap.size (ofA n l) rfl rfl 50 (tnN 0 zero12) (heap_alloc_new w1 _) (by rw [info50, HZ.out]) (by rw [HZ.out]; rfl) H1.out ?_)
    go_ret2
    exact ⟨rfl, by rw [World.setRow_alloc_new]; exact below_alloc HB.out _⟩
def quaO (n : Int) (l : List S43) : Option (List Nat) := (firstS (fun s => quaB n.toNat (townO l) s) n.toNat).map memL
theorem progQuasi_any (n : Int) (A : Option Addr) (c : Nat) (l : List S43) (w : World) (hr : Kd.C k43 w A l.length l) (hc : l.length ≤ c) :
    Calls Try.prog 41 #[.int .i64 n, .slice A l.length c] w (OutO (listF n l (quaO n l)) (errF n l (quaO n l)) w) :=
  (QuasiP_any n A c l w hr hc).mono fun e w' h => outO_first h
theorem quasi_b {n : Nat} {o : List Nat} {s : Nat} {b : Bool} (hb : quaB n o s = b) (w : World) (ok : Okt n o) (hs : s < 4096) :
    Calls Try.prog 78 #[.agg (tnN n o), .int .i64 (s : Nat)] w fun e w' => e = .returned (.bool b) ∧ Below w.heap.size w w' := hb ▸ quasi_any n o s w ok hs
def isQ (n : Nat) (o : List Nat) (l : List Int) : Bool := decide (AscTo n l l.length) && quaB n o (setOf l)
def IsQPost (n : Int) (l : List S43) (s : List Int) (w : World) (e : Ending) (w' : World) : Prop :=
  e = .returned (.tuple #[.bool (if ofE n l = 0 then isQ n.toNat (townO l) s else false), .int .i64 (ofE n l)]) ∧ Below w.heap.size w w'
set_option maxHeartbeats 3200000 in
set_option maxRecDepth 100000 in
theorem IsQuasiP_any (n : Int) (A : Option Addr) (c : Nat) (l : List S43) (B : Option Addr) (d : Nat) (s : List Int) (w : World) (hr : Kd.C k43 w A l.length l) (hc : l.length ≤ c)
    (hr2 : Kd.C (Kd.int .i64) w B s.length s) (hd : s.length ≤ d) (hs : s.length < 4611686018427387904) :
    Calls Try.prog 39 #[.int .i64 n, .slice A l.length c, .slice B s.length d] w (IsQPost n l s w) := by
  have HO := Aside0.mk (of_A n A c l w hr hc)
  have HZ := Aside0.mk (ofA_size n l)
  have H1 := Aside0.mk (ofA_one n l)
  have HR2 := Aside0.mk hr2
  clear hr hc hr2
  by_cases he : ofE n l = 0
  · have ok := okt_of he
    have hA : ofA n l = tnN n.toNat (townO l) := by rw [ofA, if_pos he]
    have hK : IsQPost n l s w = fun e w' => e = .returned (.tuple #[.bool (isQ n.toNat (townO l) s), .int .i64 0]) ∧ Below w.heap.size w w' := by funext e w'; simp [IsQPost, he]
    rw [hK]
    rw [hA] at HO HZ H1
    rw [he] at HO
    clear he hA hK
    generalize townO l = o at *
    generalize n.toNat = m at *
    have HK := Aside0.mk ok
    have n12 := ok.n12
    have hpn := pow12_lt m n12
    clear ok
    by_cases ha : AscTo m s s.length
    · have hS := Nat.lt_of_lt_of_le (by have := setOf_lt m s s.length (Nat.le_refl _) ha; rwa [List.take_length] at this) (Nat.pow_le_pow_right (by decide) n12 : 2 ^ m ≤ 2 ^ 12)
      have hB : isQ m o s = quaB m o (setOf s) := by simp [isQ, ha]
      have hL : listedV m s = .tuple #[.int .i64 (setOf s : Nat), .bool true] := if_pos ha
      rw [hB]
      have HLt := Aside0.mk (fun w' h => hL ▸ listed_any m o B d s w' HK.out h hd hs)
      clear hB hL ha
      generalize setOf s = S at *
      obtain ⟨b, hb⟩ : ∃ b, quaB m o S = b := ⟨_, rfl⟩
      rw [hb]
      have HQ := Aside0.mk hb
      clear hb
      go_enter Try.func39, Try.ntmps39
      go_wp2_with fail
      refine HO.out.mono ?_
      rintro e w1 ⟨rfl, hb⟩
      have HB := Aside0.mk hb
      clear hb HO
      have HT : Aside0 (TnN (w1.alloc (.cells (tnN m o) 50)) w1.heap.size m o) := ⟨Blk.new _ _ _⟩
      have HB1 := Aside0.mk (below_alloc HB.out (.cells (tnN m o) 50))
      go_wp2_with (first | (refine wpList_store_row rfl 50 _ _ rfl w1.heap.size (tnN m o) rfl rfl 50 (tnN 0 zero12) (heap_alloc_new w1 _) (by rw [info50, HZ.out]) (by rw [HZ.out]; rfl) H1.out ?_; rw [World.setRow_alloc_new]) | (refine wpList_load_row rfl 50 _ rfl w1.heap.size rfl 50 (tnN m o) (0, 0) _ HT.out Try.underlying50 rfl (by rw [info50, HZ.out]) ?_))
      refine (HLt.out _ (Kd.C_below HR2.out (HB1.out))).mono ?_
      rintro e w2 ⟨rfl, hb2⟩
      have HB2 := Aside0.mk (below_then HB1.out HB1.out.size hb2)
      have HT2 := Aside0.mk (Blk.later HT.out hb2)
      clear hb2
      go_wp2_with (refine wpList_load_row_w (by kernel_rfl) 50 _ rfl w1.heap.size rfl 50 (tnN m o) (0, 0) _ HT2.out Try.underlying50 rfl (by rw [info50, HZ.out]) ?_)
      refine (quasi_b HQ.out _ HK.out (by omega)).mono ?_
      rintro e w4 ⟨rfl, hb4⟩
      have HB4 := Aside0.mk (below_then HB2.out HB2.out.size hb4)
      clear hb4
      go_wp2_with fail
      go_ret2
      exact ⟨rfl, HB4.out⟩
    · have hB : isQ m o s = false := by simp [isQ, ha]
      have hL : listedV m s = .tuple #[.int .i64 0, .bool false] := if_neg ha
      rw [hB]
      have HLt := Aside0.mk (fun w' h => hL ▸ listed_any m o B d s w' HK.out h hd hs)
      clear hB hL ha
      go_enter Try.func39, Try.ntmps39
      go_wp2_with fail
      refine HO.out.mono ?_
      rintro e w1 ⟨rfl, hb⟩
      have HB := Aside0.mk hb
      clear hb HO
      have HT : Aside0 (TnN (w1.alloc (.cells (tnN m o) 50)) w1.heap.size m o) := ⟨Blk.new _ _ _⟩
      have HB1 := Aside0.mk (below_alloc HB.out (.cells (tnN m o) 50))
      go_wp2_with (first | (refine wpList_store_row rfl 50 _ _ rfl w1.heap.size (tnN m o) rfl rfl 50 (tnN 0 zero12) (heap_alloc_new w1 _) (by rw [info50, HZ.out]) (by rw [HZ.out]; rfl) H1.out ?_; rw [World.setRow_alloc_new]) | (refine wpList_load_row rfl 50 _ rfl w1.heap.size rfl 50 (tnN m o) (0, 0) _ HT.out Try.underlying50 rfl (by rw [info50, HZ.out]) ?_))
      refine (HLt.out _ (Kd.C_below HR2.out (HB1.out))).mono ?_
      rintro e w2 ⟨rfl, hb2⟩
      have HB2 := Aside0.mk (below_then HB1.out HB1.out.size hb2)
      clear hb2
      go_wp2_with fail
      go_ret2
      exact ⟨rfl, HB2.out⟩
  · have hK : IsQPost n l s w = fun e w' => e = .returned (.tuple #[.bool false, .int .i64 (ofE n l)]) ∧ Below w.heap.size w w' := by funext e w'; simp [IsQPost, he]
    rw [hK]
    have hb : (ofE n l != 0) = true := bne_iff_ne.2 he
    have hb' : (ofE n l == 0) = false := beq_eq_false_iff_ne.2 he
    clear hK he
    generalize ofE n l = er at *
    go_enter Try.func39, Try.ntmps39
    go_wp2_with fail
    refine HO.out.mono ?_
    rintro e w1 ⟨rfl, hb⟩
    have HB := Aside0.mk hb
    clear hb HO
    go_wp2_with (refine wpList_store_row rfl 50 _ _ rfl w1.heap.size (ofA n l) rfl rfl 50 (tnN 0 zero12) (heap_alloc_new w1 _) (by rw [info50, HZ.out]) (by rw [HZ.out]; rfl) H1.out ?_)
    go_ret2
    exact ⟨rfl, by rw [World.setRow_alloc_new]; exact below_alloc HB.out _⟩
end Go.Proofs.Ytmobefgnkiboaaa.Im

namespace Go.Proofs.Ytmobefgnkiboaaa.Im
open Go.RowKit Go.Proofs.YtmobefgnkiboaaaW.PrintWords Go.Proofs.YtmobefgnkiboaaaW.PrintLast Go.Proofs.YtmobefgnkiboaaaW.PrintMore
set_option linter.unusedVariables false
def viaQ (o : List Nat) (s a b : Nat) : Bool := (o.getD a 0).testBit b && (o.getD b 0 &&& s != 0)
def okQ (n : Nat) (o : List Nat) (s a : Nat) : Bool := s.testBit a || ((o.getD a 0 &&& s != 0) || (List.range n).any (viaQ o s a))
def quasiR (n : Nat) (o : List Nat) (s : Nat) : Bool := (List.range n).all (okQ n o s) && (List.range n).all (indB o s)
theorem quasiR_eq {n : Nat} {o : List Nat} (ok : Okt n o) (s : Nat) : quasiR n o s = quaB n o s := by
  have n12 := ok.n12
  have key : ∀ a, a < n → okQ n o s a = absB (rchO n o) s (2 ^ n - 1) a := fun a ha => by
    have hw : (rchO n o).getD a 0 = rchN o a := by unfold rchO; rw [turnF_get _ _ _ _ (by omega), if_pos ha]
    have hb : (2 ^ n - 1).testBit a = true := by rw [Nat.testBit_two_pow_sub_one, decide_eq_true ha]
    unfold okQ absB
    rw [hw, hb, Bool.true_and, Bool.not_not]
    congr 1
    rw [Bool.eq_iff_iff, Bool.or_eq_true, bne_iff_ne, bne_iff_ne, List.any_eq_true]
    unfold rchN
    have nz : ∀ x : Nat, x &&& s ≠ 0 ↔ ∃ i, x.testBit i = true ∧ s.testBit i = true := fun x => by
      rw [Ne, land_zero]
      constructor
      · intro h
        apply Classical.byContradiction
        intro h'
        exact h fun i hi => h' ⟨i, hi⟩
      · rintro ⟨i, hi⟩ h
        exact h i hi
    rw [nz, nz]
    constructor
    · rintro (⟨i, h1, h2⟩ | ⟨b, hb, h3⟩)
      · exact ⟨i, by rw [reachL_bit, h1]; rfl, h2⟩
      · unfold viaQ at h3
        rw [Bool.and_eq_true, bne_iff_ne, nz] at h3
        obtain ⟨h3, i, h4, h5⟩ := h3
        refine ⟨i, ?_, h5⟩
        rw [reachL_bit, Bool.or_eq_true]
        refine .inr (List.any_eq_true.2 ⟨b, (memL_mem _ _).2 ⟨?_, h3⟩, h4⟩)
        have := List.mem_range.1 hb; omega
    · rintro ⟨i, h1, h2⟩
      rw [reachL_bit, Bool.or_eq_true] at h1
      rcases h1 with h1 | h1
      · exact .inl ⟨i, h1, h2⟩
      · obtain ⟨b, hb, h3⟩ := List.any_eq_true.1 h1
        refine .inr ⟨b, List.mem_range.2 (mem_lt (ok.lt a) hb), ?_⟩
        unfold viaQ
        rw [((memL_mem _ _).1 hb).2, Bool.true_and, bne_iff_ne, nz]
        exact ⟨i, h3, h2⟩
  unfold quasiR quaB AllB
  rw [Bool.eq_iff_iff, Bool.and_eq_true, List.all_eq_true, List.all_eq_true, List.all_eq_true]
  constructor
  · rintro ⟨h1, h2⟩ a ha
    rw [h2 a ha, ← key a (List.mem_range.1 ha), h1 a ha]; rfl
  · intro h
    refine ⟨fun a ha => ?_, fun a ha => ?_⟩
    · have := h a ha
      rw [Bool.and_eq_true] at this
      rw [key a (List.mem_range.1 ha)]; exact this.2
    · have := h a ha
      rw [Bool.and_eq_true] at this
      exact this.1
theorem quaB_zero {n : Nat} (o : List Nat) (h : 1 ≤ n) : quaB n o 0 = false := by
  unfold quaB AllB
  rw [List.all_eq_false]
  refine ⟨0, List.mem_range.2 (by omega), ?_⟩
  unfold absB
  have hb : (2 ^ n - 1).testBit 0 = true := by rw [Nat.testBit_two_pow_sub_one, decide_eq_true (by omega)]
  rw [hb, Nat.and_zero]
  simp
/-- What Quasi returns is a quasi-kernel. -/
theorem isQ_found {n : Int} {l : List S43} (he : ofE n l = 0) {r : List Nat} (h : quaO n l = some r) : isQ n.toNat (townO l) (ints r) = true := by
  have ok := okt_of he
  unfold quaO at h
  rw [Option.map_eq_some_iff] at h
  obtain ⟨t, ht, rfl⟩ := h
  obtain ⟨h1, h2, _⟩ := (firstS_spec (fun s => quaB n.toNat (townO l) s) n.toNat ok.n12 (quaB_zero _ ok.n1)).1 t ht
  have h12 : (2 : Nat) ^ n.toNat ≤ 2 ^ 12 := Nat.pow_le_pow_right (by decide) ok.n12
  have hset : setOf (ints (memL t)) = t := by
    apply Nat.eq_of_testBit_eq
    intro i
    rw [setOf_bit, Bool.eq_iff_iff, decide_eq_true_eq, memL_mem]
    constructor
    · exact fun h => h.2
    · intro h
      refine ⟨?_, h⟩
      rcases Nat.lt_or_ge i 12 with h3 | h3
      · exact h3
      · rw [Nat.testBit_lt_two_pow (Nat.lt_of_lt_of_le h1 (Nat.le_trans h12 (Nat.pow_le_pow_right (by decide) h3)))] at h; cases h
  unfold isQ
  rw [hset, h2, Bool.and_true, decide_eq_true_eq]
  exact asc_of (memL_sorted t) (fun x hx => mem_lt h1 hx)
end Go.Proofs.Ytmobefgnkiboaaa.Im

namespace Go.Proofs.Ytmobefgnkiboaaa.Im
open Go.RowKit Go.Proofs.YtmobefgnkiboaaaW.PrintWords Go.Proofs.YtmobefgnkiboaaaW.PrintLast Go.Proofs.YtmobefgnkiboaaaW.PrintMore
set_option linter.unusedVariables false
theorem addArc_bit (o : List Nat) (p : S43) (a b : Nat) (ho : o.length = 12) (h : p.f0.toNat < 12) : ((addArc o p).getD a 0).testBit b = ((o.getD a 0).testBit b || (p.f0.toNat == a && p.f1.toNat == b)) := by
  unfold addArc
  rw [List.getD_eq_getElem?_getD, List.getElem?_set]
  by_cases e : p.f0.toNat = a
  · rw [if_pos e, if_pos (by rw [ho]; exact h), Option.getD_some, Nat.testBit_or, Nat.testBit_two_pow, e, beq_self_eq_true, Bool.true_and]
    rfl
  · rw [if_neg e, beq_eq_false_iff_ne.2 e, Bool.false_and, Bool.or_false, ← List.getD_eq_getElem?_getD]
theorem foldl_town (a b : Nat) : ∀ (l : List S43) (o : List Nat), o.length = 12 → (∀ p ∈ l, p.f0.toNat < 12) → ((l.foldl addArc o).getD a 0).testBit b = ((o.getD a 0).testBit b || l.any fun p => p.f0.toNat == a && p.f1.toNat == b)
  | [], o, _, _ => by simp
  | p :: l, o, ho, h => by
    rw [List.foldl_cons, foldl_town a b l (addArc o p) (by simp [addArc, ho]) (fun q hq => h q (List.mem_cons_of_mem _ hq)), addArc_bit o p a b ho (h p List.mem_cons_self), List.any_cons, Bool.or_assoc]
theorem zero12_get (i : Nat) : zero12.getD i 0 = 0 := by
  rcases Nat.lt_or_ge i 12 with h | h
  · have : i = 0 ∨ i = 1 ∨ i = 2 ∨ i = 3 ∨ i = 4 ∨ i = 5 ∨ i = 6 ∨ i = 7 ∨ i = 8 ∨ i = 9 ∨ i = 10 ∨ i = 11 := by omega
    rcases this with rfl | rfl | rfl | rfl | rfl | rfl | rfl | rfl | rfl | rfl | rfl | rfl <;> rfl
  · simp [zero12, List.getD_eq_getElem?_getD, h]
theorem town_bit {n : Int} {l : List S43} (he : ofE n l = 0) (a b : Nat) : ((townO l).getD a 0).testBit b = true ↔ ∃ p ∈ l, p.f0 = a ∧ p.f1 = b := by
  obtain ⟨h1, h2, _, h4⟩ := ofE_ok he
  rw [List.all_eq_true] at h4
  have hp : ∀ p ∈ l, 0 ≤ p.f0 ∧ p.f0 < n ∧ 0 ≤ p.f1 ∧ p.f1 < n := fun p hp => by
    have := h4 p hp
    simp only [arcOk, Bool.and_eq_true, decide_eq_true_eq] at this
    omega
  unfold townO
  rw [foldl_town a b l zero12 rfl (fun p h => by have := hp p h; omega), zero12_get, Nat.zero_testBit, Bool.false_or, List.any_eq_true]
  constructor
  · rintro ⟨p, h, hq⟩
    rw [Bool.and_eq_true, beq_iff_eq, beq_iff_eq] at hq
    have := hp p h
    exact ⟨p, h, by omega, by omega⟩
  · rintro ⟨p, h, h5, h6⟩
    refine ⟨p, h, ?_⟩
    rw [h5, h6]; simp
/-- A quasi-kernel of some people, whose arcs are those of all. -/
theorem lovasz_list (arc : Nat → Nat → Bool) (hl : ∀ v, arc v v = false) : ∀ (k : Nat) (W : List Nat), W.length ≤ k →
    ∃ Q : List Nat, (∀ q ∈ Q, q ∈ W) ∧ (∀ a ∈ Q, ∀ b ∈ Q, arc a b = false) ∧ ∀ u ∈ W, u ∈ Q ∨ (∃ q ∈ Q, arc u q = true) ∨ ∃ m q, q ∈ Q ∧ m ∈ W ∧ arc u m = true ∧ arc m q = true
  | _, [], _ => ⟨[], (fun q hq => by cases hq), (fun a ha => by cases ha), (fun u hu => by cases hu)⟩
  | 0, v :: rest, h => by simp at h
  | k + 1, v :: rest, h => by
    have hlen : (rest.filter fun u => !arc u v).length ≤ k := by
      have := List.length_filter_le (fun u => !arc u v) rest
      simp at h; omega
    obtain ⟨Q, h1, h2, h3⟩ := lovasz_list arc hl k _ hlen
    have hm : ∀ q ∈ Q, q ∈ rest ∧ arc q v = false := fun q hq => by
      have := h1 q hq
      rw [List.mem_filter] at this
      exact ⟨this.1, by simpa using this.2⟩
    by_cases hv : ∃ q ∈ Q, arc v q = true
    · obtain ⟨q0, hq0, ha0⟩ := hv
      refine ⟨Q, fun q hq => List.mem_cons_of_mem _ (hm q hq).1, h2, fun u hu => ?_⟩
      rcases List.mem_cons.1 hu with rfl | hu
      · exact .inr (.inl ⟨q0, hq0, ha0⟩)
      · cases hav : arc u v with
        | true => exact .inr (.inr ⟨v, q0, hq0, List.mem_cons_self, hav, ha0⟩)
        | false =>
          rcases h3 u (List.mem_filter.2 ⟨hu, by rw [hav]; rfl⟩) with h4 | h4 | ⟨m, q, h4, h5, h6, h7⟩
          · exact .inl h4
          · exact .inr (.inl h4)
          · exact .inr (.inr ⟨m, q, h4, List.mem_cons_of_mem _ (List.mem_filter.1 h5).1, h6, h7⟩)
    · have hvn : ∀ q ∈ Q, arc v q = false := fun q hq => by
        cases hx : arc v q with
        | false => rfl
        | true => exact absurd ⟨q, hq, hx⟩ hv
      refine ⟨v :: Q, fun q hq => ?_, fun a ha b hb => ?_, fun u hu => ?_⟩
      · rcases List.mem_cons.1 hq with rfl | hq
        · exact List.mem_cons_self
        · exact List.mem_cons_of_mem _ (hm q hq).1
      · rcases List.mem_cons.1 ha with e1 | ha1
        · rcases List.mem_cons.1 hb with e2 | hb1
          · rw [e1, e2]; exact hl _
          · rw [e1]; exact hvn b hb1
        · rcases List.mem_cons.1 hb with e2 | hb1
          · rw [e2]; exact (hm a ha1).2
          · exact h2 a ha1 b hb1
      · rcases List.mem_cons.1 hu with rfl | hu
        · exact .inl List.mem_cons_self
        · cases hav : arc u v with
          | true => exact .inr (.inl ⟨v, List.mem_cons_self, hav⟩)
          | false =>
            rcases h3 u (List.mem_filter.2 ⟨hu, by rw [hav]; rfl⟩) with h4 | ⟨q, h4, h5⟩ | ⟨m, q, h4, h5, h6, h7⟩
            · exact .inl (List.mem_cons_of_mem _ h4)
            · exact .inr (.inl ⟨q, List.mem_cons_of_mem _ h4, h5⟩)
            · exact .inr (.inr ⟨m, q, List.mem_cons_of_mem _ h4, List.mem_cons_of_mem _ (List.mem_filter.1 h5).1, h6, h7⟩)
theorem land_ne (x s : Nat) : x &&& s ≠ 0 ↔ ∃ i, x.testBit i = true ∧ s.testBit i = true := by
  rw [Ne, land_zero]
  constructor
  · intro h
    apply Classical.byContradiction
    intro h'
    exact h fun i hi => h' ⟨i, hi⟩
  · rintro ⟨i, hi⟩ h
    exact h i hi
theorem setOf_lt2 {n : Nat} {Q : List Nat} (h : ∀ q ∈ Q, q < n) : setOf (ints Q) < 2 ^ n := by
  apply Nat.lt_pow_two_of_testBit
  intro i hi
  rw [setOf_bit, decide_eq_false_iff_not]
  intro hq
  have := h i hq
  omega
theorem lovasz {n : Nat} {o : List Nat} (ok : Okt n o) (hl : ∀ i, (o.getD i 0).testBit i = false) : ∃ s, s < 2 ^ n ∧ quaB n o s = true := by
  obtain ⟨Q, h1, h2, h3⟩ := lovasz_list (fun a b => (o.getD a 0).testBit b) hl n (List.range n) (by simp)
  have hQ : ∀ q ∈ Q, q < n := fun q hq => List.mem_range.1 (h1 q hq)
  refine ⟨setOf (ints Q), setOf_lt2 hQ, ?_⟩
  rw [← quasiR_eq ok]
  have bit : ∀ i, (setOf (ints Q)).testBit i = true ↔ i ∈ Q := fun i => by rw [setOf_bit, decide_eq_true_eq]
  unfold quasiR
  rw [Bool.and_eq_true, List.all_eq_true, List.all_eq_true]
  refine ⟨fun a ha => ?_, fun a ha => ?_⟩
  · unfold okQ
    rw [Bool.or_eq_true, Bool.or_eq_true, bne_iff_ne, land_ne, List.any_eq_true]
    rcases h3 a ha with h4 | ⟨q, h4, h5⟩ | ⟨m, q, h4, h5, h6, h7⟩
    · exact .inl ((bit a).2 h4)
    · exact .inr (.inl ⟨q, h5, (bit q).2 h4⟩)
    · refine .inr (.inr ⟨m, h5, ?_⟩)
      unfold viaQ
      rw [Bool.and_eq_true, bne_iff_ne, land_ne]
      exact ⟨h6, q, h7, (bit q).2 h4⟩
  · unfold indB
    cases hb : (setOf (ints Q)).testBit a with
    | false => rfl
    | true =>
      have haQ := (bit a).1 hb
      rw [Bool.not_true, Bool.false_or, beq_iff_eq, land_zero]
      rintro i ⟨h4, h5⟩
      have := h2 a haQ i ((bit i).1 h5)
      rw [this] at h4; cases h4
theorem quasi_of_kernel {n : Nat} {o : List Nat} (ok : Okt n o) {s : Nat} (h : kerB n o s (2 ^ n - 1) = true) : quaB n o s = true := by
  have n12 := ok.n12
  unfold kerB AllB at h
  unfold quaB AllB
  rw [List.all_eq_true] at h ⊢
  intro a ha
  have h1 := h a ha
  rw [Bool.and_eq_true] at h1 ⊢
  refine ⟨h1.1, ?_⟩
  have hw : (rchO n o).getD a 0 = rchN o a := by unfold rchO; rw [turnF_get _ _ _ _ (by have := List.mem_range.1 ha; omega), if_pos (List.mem_range.1 ha)]
  have h2 := h1.2
  unfold absB at h2 ⊢
  rw [Bool.or_eq_true] at h2 ⊢
  rcases h2 with h2 | h2
  · exact .inl h2
  · refine .inr ?_
    rw [bne_iff_ne, land_ne] at h2 ⊢
    obtain ⟨i, h3, h4⟩ := h2
    refine ⟨i, ?_, h4⟩
    rw [hw]
    unfold rchN
    rw [reachL_bit, h3]; rfl
/-- An arc from a person to the same person. -/
def loopL (l : List S43) : Bool := l.any fun p => p.f0 == p.f1
theorem quaO_loop {n : Int} {l : List S43} (he : ofE n l = 0) (h : quaO n l = none) : loopL l = true := by
  have ok := okt_of he
  cases hL : loopL l with
  | true => rfl
  | false =>
    exfalso
    have hl : ∀ i, ((townO l).getD i 0).testBit i = false := fun i => by
      cases hb : ((townO l).getD i 0).testBit i with
      | false => rfl
      | true =>
        obtain ⟨p, hp, h1, h2⟩ := (town_bit he i i).1 hb
        unfold loopL at hL
        rw [List.any_eq_false] at hL
        exact absurd (by rw [h1, h2]; simp) (hL p hp)
    obtain ⟨s, hs, hq⟩ := lovasz ok hl
    unfold quaO at h
    rw [Option.map_eq_none_iff] at h
    have := (firstS_spec (fun s => quaB n.toNat (townO l) s) n.toNat ok.n12 (quaB_zero _ ok.n1)).2 h s hs
    rw [hq] at this; cases this
theorem setOf_memL {n t : Nat} (hn : n ≤ 12) (h1 : t < 2 ^ n) : setOf (ints (memL t)) = t := by
  have h12 : (2 : Nat) ^ n ≤ 2 ^ 12 := Nat.pow_le_pow_right (by decide) hn
  apply Nat.eq_of_testBit_eq
  intro i
  rw [setOf_bit, Bool.eq_iff_iff, decide_eq_true_eq, memL_mem]
  constructor
  · exact fun h => h.2
  · intro h
    refine ⟨?_, h⟩
    rcases Nat.lt_or_ge i 12 with h3 | h3
    · exact h3
    · rw [Nat.testBit_lt_two_pow (Nat.lt_of_lt_of_le h1 (Nat.le_trans h12 (Nat.pow_le_pow_right (by decide) h3)))] at h; cases h
theorem isQ_kernel {n : Int} {l : List S43} (he : ofE n l = 0) {r : List Nat} (h : kerO n l = some r) : isQ n.toNat (townO l) (ints r) = true := by
  have ok := okt_of he
  unfold kerO at h
  rw [Option.map_eq_some_iff] at h
  obtain ⟨t, ht, rfl⟩ := h
  obtain ⟨h1, h2, _⟩ := (firstS_spec (fun s => kerB n.toNat (townO l) s (2 ^ n.toNat - 1)) n.toNat ok.n12 (kerB_zero _ ok.n1)).1 t ht
  unfold isQ
  rw [setOf_memL ok.n12 h1, quasi_of_kernel ok h2, Bool.and_true, decide_eq_true_eq]
  exact asc_of (memL_sorted t) (fun x hx => mem_lt h1 hx)
theorem loopL_snoc (l : List S43) (k : Nat) (h : k < l.length) : loopL (l.take (k + 1)) = (loopL (l.take k) || ((rd_T43 l k).f0 == (rd_T43 l k).f1)) := by
  rw [List.take_succ_eq_append_getElem h]
  unfold loopL
  rw [List.any_append]
  simp [rd_T43, h]
end Go.Proofs.Ytmobefgnkiboaaa.Im

namespace Go.Proofs.Ytmobefgnkiboaaa.Im
open Go.RowKit Go.Proofs.YtmobefgnkiboaaaW.PrintWords Go.Proofs.YtmobefgnkiboaaaW.PrintLast Go.Proofs.YtmobefgnkiboaaaW.PrintMore
set_option linter.unusedVariables false
/-- Is there a walk with so many arcs? -/
def wkB (o : List Nat) : Nat → Nat → Nat → Bool
  | 0, a, b => a == b
  | L + 1, a, b => (memL (o.getD a 0)).any fun c => wkB o L c b
/-- The number of arcs of a shortest walk, odd (1) or even (0); 99: none. -/
def dF (o : List Nat) (a b p : Nat) : Nat := ((List.range 99).find? fun L => L % 2 == p && wkB o L a b).getD 99
/-- A way from a person to a last one. -/
structure Wy (o : List Nat) (n z : Nat) (way : List Nat) (last : Nat) : Prop where
  ne : way ≠ []
  hd : way.headD 0 = z
  la : way.getLastD 0 = last
  lt : ∀ x ∈ way, x < n
  nd : way.Nodup
  wk : ∀ x ∈ way, ∃ p q, p + q + 1 = way.length ∧ wkB o p z x = true ∧ wkB o q x last = true
theorem Wy.one (o : List Nat) {n z : Nat} (h : z < n) : Wy o n z [z] z :=
  ⟨by simp, rfl, rfl, fun x hx => by rw [List.mem_singleton.1 hx]; exact h, by simp, fun x hx => by rw [List.mem_singleton.1 hx]; exact ⟨0, 0, rfl, by simp [wkB], by simp [wkB]⟩⟩
end Go.Proofs.Ytmobefgnkiboaaa.Im

namespace Go.Proofs.Ytmobefgnkiboaaa.Im
open Go.RowKit Go.Proofs.YtmobefgnkiboaaaW.PrintWords Go.Proofs.YtmobefgnkiboaaaW.PrintLast Go.Proofs.YtmobefgnkiboaaaW.PrintMore
set_option linter.unusedVariables false
def okT (o T : List Nat) (a b p : Nat) : Prop := (o.getD a 0).testBit b = true → T.getD (2 * b + (1 - p)) 0 ≤ T.getD (2 * a + p) 0 + 1
/-- The table in a block: two cells for each person. -/
def Tb (w : World) (g : Nat) (T : List Nat) : Prop := ∃ ex : List Value, Blk w g 69 (nums .i64 (ints T) ++ ex).toArray
theorem Tb.cell {w : World} {g : Nat} {T : List Nat} (h : Tb w g T) (i : Nat) (hi : i < T.length) : w.cell? ⟨g, i, none⟩ = some (.int .i64 (T.getD i 0 : Nat)) := by
  obtain ⟨ex, hb⟩ := h
  rw [hb.cell]
  have hl : (nums .i64 (ints T)).length = T.length := by rw [nums_length, ints_length]
  rw [List.getElem?_toArray, List.getElem?_append_left (by omega)]
  simp [nums, ints, hi]
theorem Tb.frozen {w : World} {g : Nat} {T : List Nat} (h : Tb w g T) (i : Nat) : w.frozen? ⟨g, i, none⟩ = false := by
  obtain ⟨ex, hb⟩ := h
  exact hb.frozen i
theorem Tb.set_ {w : World} {g : Nat} {T : List Nat} (h : Tb w g T) (i v : Nat) (hi : i < T.length) : Tb (w.setCell ⟨g, i, none⟩ (.int .i64 (v : Nat))) g (T.set i v) := by
  obtain ⟨ex, hb⟩ := h
  refine ⟨ex, ?_⟩
  have := Blk.set_ hb i (.int .i64 (v : Nat))
  have hl : (nums .i64 (ints T)).length = T.length := by rw [nums_length, ints_length]
  have e : ((nums .i64 (ints T) ++ ex).toArray).setIfInBounds i (.int .i64 (v : Nat)) = (nums .i64 (ints (T.set i v)) ++ ex).toArray := by
    rw [List.setIfInBounds_toArray, List.set_append_left _ _ (by omega)]
    simp [nums, ints, List.map_set]
  rw [e] at this
  exact this
theorem Tb.later {w w' : World} {g : Nat} {T : List Nat} (h : Tb w g T) (hb : Below w.heap.size w w') : Tb w' g T := by
  obtain ⟨ex, h⟩ := h
  exact ⟨ex, h.later hb⟩
theorem Tb.lt {w : World} {g : Nat} {T : List Nat} (h : Tb w g T) : g < w.heap.size := by
  obtain ⟨ex, h⟩ := h
  exact h.lt
end Go.Proofs.Ytmobefgnkiboaaa.Im

namespace Go.Proofs.Ytmobefgnkiboaaa.Im
open Go.RowKit Go.Proofs.YtmobefgnkiboaaaW.PrintWords Go.Proofs.YtmobefgnkiboaaaW.PrintLast Go.Proofs.YtmobefgnkiboaaaW.PrintMore
set_option linter.unusedVariables false
/-- What a part of a round has done: something got shorter, or nothing can. -/
def Rnd (o : List Nat) (n : Nat) (T T' : List Nat) (ag : Bool) (done : Nat → Nat → Nat → Prop) : Prop :=
  if ag then T'.sum < T.sum else T' = T ∧ ∀ a b p, a < n → b < n → p < 2 → done a b p → okT o T a b p
theorem Rnd.same {o : List Nat} {n : Nat} {T T' : List Nat} {d : Nat → Nat → Nat → Prop} (h : Rnd o n T T' false d) : T' = T := h.1
end Go.Proofs.Ytmobefgnkiboaaa.Im

namespace Go.Proofs.Ytmobefgnkiboaaa.Im
open Go.RowKit Go.Proofs.YtmobefgnkiboaaaW.PrintWords Go.Proofs.YtmobefgnkiboaaaW.PrintLast Go.Proofs.YtmobefgnkiboaaaW.PrintMore
set_option linter.unusedVariables false
def NoB (o : List Nat) (z last d b : Nat) : Prop := ∀ j, j < b → ((o.getD last 0).testBit j && dF o j z (d % 2) == d) = false
theorem NoB.succ {o : List Nat} {z last d b : Nat} (h : NoB o z last d b) (h1 : ((o.getD last 0).testBit b && dF o b z (d % 2) == d) = false) : NoB o z last d (b + 1) := fun j hj => by
  rcases Nat.lt_or_ge j b with hlt | hge
  · exact h j hlt
  · obtain rfl : j = b := by omega
    exact h1
end Go.Proofs.Ytmobefgnkiboaaa.Im

namespace Go.Proofs.Ytmobefgnkiboaaa.Im
open Go.RowKit Go.Proofs.YtmobefgnkiboaaaW.PrintWords Go.Proofs.YtmobefgnkiboaaaW.PrintLast Go.Proofs.YtmobefgnkiboaaaW.PrintMore
set_option linter.unusedVariables false
theorem memO_len (n : Int) (l : List S43) (x : Option Nat) : (listF n l (x.map memL)).length < 1000000 := by
  unfold listF
  split
  · cases x with
    | none => simp
    | some t => have := memL_len t; simp; omega
  · simp
end Go.Proofs.Ytmobefgnkiboaaa.Im

namespace Go.Proofs.Ytmobefgnkiboaaa.Im
open Go.RowKit Go.Proofs.YtmobefgnkiboaaaW.PrintWords Go.Proofs.YtmobefgnkiboaaaW.PrintLast Go.Proofs.YtmobefgnkiboaaaW.PrintMore
set_option linter.unusedVariables false
set_option maxHeartbeats 3200000 in
set_option maxRecDepth 100000 in
theorem law12_any (n : Int) (A : Option Addr) (c : Nat) (l : List S43) (w : World) (hr : Kd.C k43 w A l.length l) (hc : l.length ≤ c) :
    Calls Try.prog 12 #[.int .i64 n, .slice A l.length c] w fun e w' => e = .returned (.bool true) ∧ Below w.heap.size w w' := by
  have HF := Aside0.mk (few_nil A c l w hr hc)
  have HR := Aside0.mk hr
  clear hr
  by_cases hf : l.length ≤ 150
  · rw [decide_eq_true hf] at HF
    have HV := Aside0.mk (fun (w : World) h1 => valid_any n A c l w h1 hc)
    by_cases he : ofE n l = 0
    · have hev : (ofE n l == 0) = true := by rw [he]; rfl
      rw [hev] at HV
      have HI := Aside0.mk (fun (B : Option Addr) (q : Nat) (xs : List Int) (w : World) h1 h3 h4 h5 => IsQuasiP_any n A c l B q xs w h1 hc h3 h4 h5)
      unfold IsQPost at HI
      have HQ := Aside0.mk (fun (w : World) h1 => progQuasi_any n A c l w h1 hc)
      have HKn := Aside0.mk (fun (w : World) h1 => progKernel_any n A c l w h1 hc)
      have hl1 : (listF n l (quaO n l)).length < 1000000 := memO_len n l _
      have hl2 : (listF n l (kerO n l)).length < 1000000 := memO_len n l _
      have HFd := Aside0.mk (fun (r : List Nat) h => isQ_found (n := n) (l := l) he (r := r) h)
      have HFk := Aside0.mk (fun (r : List Nat) h => isQ_kernel (n := n) (l := l) he (r := r) h)
      have HLo := Aside0.mk (fun h => quaO_loop (n := n) (l := l) he h)
      simp only [he, if_true] at HI
      unfold listF errF at HQ HKn
      unfold listF at hl1 hl2
      simp only [he, if_true] at HQ HKn hl1 hl2
      generalize isQ n.toNat (townO l) = isq at *
      clear he hev
      cases hq : quaO n l with
      | none =>
        have HLp := Aside0.mk (HLo.out hq)
        rw [hq] at HQ
        simp only [Option.getD_none, Option.isSome_none, Bool.false_eq_true, if_false] at HQ
        clear hq HFd HI hl1 HLo
        go_enter Try.func12, Try.ntmps12
        go_wp2_with fail
        refine (HF.out).mono ?_
        rintro e w1 ⟨rfl, hb1⟩
        have HB1 := Aside0.mk (hb1)
        have HR_1 := Aside0.mk (Kd.C_below HR.out hb1)
        clear hb1
        go_wp2_with fail
        refine (HV.out _ HR_1.out).mono ?_
        rintro e w2 ⟨rfl, hb2⟩
        have HB2 := Aside0.mk (below_then HB1.out HB1.out.size hb2)
        have HR_2 := Aside0.mk (Kd.C_below HR_1.out hb2)
        clear hb2
        have HRW := HR_2
        have HB0 := HB2
        go_wp2_with fail
        obtain ⟨W, rfl⟩ : ∃ W : World, W = w2 := ⟨_, rfl⟩
        go_loopw [5, 6] (fun v5 v6 wr => ∃ k : Nat, k ≤ l.length ∧ v6 = .int .i64 (k : Int) ∧ v5 = .bool (loopL (l.take k)) ∧ Aside0 (Below W.heap.size W wr)) (fun _ v _ => l.length - (intOf v).toNat)
        case atStart => exact ⟨0, Nat.zero_le _, rfl, rfl, ⟨Below.refl _ _⟩⟩
        case round =>
          obtain ⟨k, hk, rfl, rfl, HBr⟩ := hrel
          by_cases hkl : k < l.length
          · obtain ⟨a2, rfl, x0, x1⟩ := at_T43 (Kd.C_below HRW.out HBr.out) (k : Int) (by omega) (by omega)
            simp only [Int.toNat_natCast] at x0 x1
            have hsn := loopL_snoc l k hkl
            have k0 : (0 : Int) ≤ k := by omega
            have k1 : (k : Int) < l.length := by omega
            obtain ⟨p0, h0⟩ : ∃ p0, (rd_T43 l (k : Int)).f0 = p0 := ⟨_, rfl⟩
            obtain ⟨p1, h1⟩ : ∃ p1, (rd_T43 l (k : Int)).f1 = p1 := ⟨_, rfl⟩
            have h0' : (rd_T43 l k).f0 = p0 := h0
            have h1' : (rd_T43 l k).f1 = p1 := h1
            rw [h0] at x0
            rw [h1] at x1
            rw [h0', h1'] at hsn
            clear h0 h1 h0' h1'
            cases hb : loopL (l.take k) with
            | true =>
              rw [hb, Bool.true_or] at hsn
              have HSN := Aside0.mk hsn
              clear hsn hb
              go_wp2_with fail
              go_quiet (fail)
              go_wp2_with fail
              go_roundw
              case rel => exact ⟨k + 1, by omega, by go_num, by rw [HSN.out], ⟨pw_below_drewN HBr.out _⟩⟩
              case measure => simp [intOf]; try omega
            | false =>
              rw [hb, Bool.false_or] at hsn
              have HSN := Aside0.mk hsn
              clear hsn hb
              go_wp2_with fail
              go_quiet (fail)
              go_wp2_with fail
              go_roundw
              case rel => exact ⟨k + 1, by omega, by go_num, by rw [HSN.out], ⟨pw_below_drewN HBr.out _⟩⟩
              case measure => simp [intOf]; try omega
          · obtain rfl : k = l.length := by omega
            have HBW := Aside0.mk (below_then HB0.out HB0.out.size HBr.out)
            have HRX := Aside0.mk (Kd.C_below HRW.out HBr.out)
            rw [List.take_length]
            rw [HLp.out]
            go_wp2_with fail
            refine (HQ.out _ HRX.out).mono ?_
            rintro e w11 ⟨A11, c11, rfl, hc11, hC11, hb11⟩
            have HB11 := Aside0.mk (below_then HBW.out HBW.out.size hb11)
            have HR_11 := Aside0.mk (Kd.C_below HRX.out hb11)
            have QA_11 := Aside0.mk (hC11)
            clear hb11
            clear hC11
            go_wp2_with fail
            refine (alive_any _).mono ?_
            rintro e w12 ⟨rfl, hb12⟩
            have HB12 := Aside0.mk (below_then HB11.out HB11.out.size hb12)
            have HR_12 := Aside0.mk (Kd.C_below HR_11.out hb12)
            have QA_12 := Aside0.mk (Kd.C_below QA_11.out hb12)
            clear hb12
            go_wp2_with fail
            go_ret
            exact ⟨rfl, HB12.out⟩
      | some r =>
        rw [hq] at HQ hl1
        simp only [Option.getD_some, Option.isSome_some, if_true] at HQ hl1
        have hfd := HFd.out r hq
        have HFo := Aside0.mk hfd
        clear hq HFd hfd HLo
        cases hk0 : kerO n l with
        | none =>
          rw [hk0] at HKn
          simp only [Option.getD_none, Option.isSome_none, Bool.false_eq_true, if_false] at HKn
          clear hk0 HFk
          go_enter Try.func12, Try.ntmps12
          go_wp2_with fail
          refine (HF.out).mono ?_
          rintro e w1 ⟨rfl, hb1⟩
          have HB1 := Aside0.mk (hb1)
          have HR_1 := Aside0.mk (Kd.C_below HR.out hb1)
          clear hb1
          go_wp2_with fail
          refine (HV.out _ HR_1.out).mono ?_
          rintro e w2 ⟨rfl, hb2⟩
          have HB2 := Aside0.mk (below_then HB1.out HB1.out.size hb2)
          have HR_2 := Aside0.mk (Kd.C_below HR_1.out hb2)
          clear hb2
          have HRW := HR_2
          have HB0 := HB2
          go_wp2_with fail
          obtain ⟨W, rfl⟩ : ∃ W : World, W = w2 := ⟨_, rfl⟩
          go_loopw [5, 6] (fun v5 v6 wr => ∃ k : Nat, k ≤ l.length ∧ v6 = .int .i64 (k : Int) ∧ v5 = .bool (loopL (l.take k)) ∧ Aside0 (Below W.heap.size W wr)) (fun _ v _ => l.length - (intOf v).toNat)
          case atStart => exact ⟨0, Nat.zero_le _, rfl, rfl, ⟨Below.refl _ _⟩⟩
          case round =>
            obtain ⟨k, hk, rfl, rfl, HBr⟩ := hrel
            by_cases hkl : k < l.length
            · obtain ⟨a2, rfl, x0, x1⟩ := at_T43 (Kd.C_below HRW.out HBr.out) (k : Int) (by omega) (by omega)
              simp only [Int.toNat_natCast] at x0 x1
              have hsn := loopL_snoc l k hkl
              have k0 : (0 : Int) ≤ k := by omega
              have k1 : (k : Int) < l.length := by omega
              obtain ⟨p0, h0⟩ : ∃ p0, (rd_T43 l (k : Int)).f0 = p0 := ⟨_, rfl⟩
              obtain ⟨p1, h1⟩ : ∃ p1, (rd_T43 l (k : Int)).f1 = p1 := ⟨_, rfl⟩
              have h0' : (rd_T43 l k).f0 = p0 := h0
              have h1' : (rd_T43 l k).f1 = p1 := h1
              rw [h0] at x0
              rw [h1] at x1
              rw [h0', h1'] at hsn
              clear h0 h1 h0' h1'
              cases hb : loopL (l.take k) with
              | true =>
                rw [hb, Bool.true_or] at hsn
                have HSN := Aside0.mk hsn
                clear hsn hb
                go_wp2_with fail
                go_quiet (fail)
                go_wp2_with fail
                go_roundw
                case rel => exact ⟨k + 1, by omega, by go_num, by rw [HSN.out], ⟨pw_below_drewN HBr.out _⟩⟩
                case measure => simp [intOf]; try omega
              | false =>
                rw [hb, Bool.false_or] at hsn
                have HSN := Aside0.mk hsn
                clear hsn hb
                go_wp2_with fail
                go_quiet (fail)
                go_wp2_with fail
                go_roundw
                case rel => exact ⟨k + 1, by omega, by go_num, by rw [HSN.out], ⟨pw_below_drewN HBr.out _⟩⟩
                case measure => simp [intOf]; try omega
            · obtain rfl : k = l.length := by omega
              have HBW := Aside0.mk (below_then HB0.out HB0.out.size HBr.out)
              have HRX := Aside0.mk (Kd.C_below HRW.out HBr.out)
              rw [List.take_length]
              obtain ⟨lp, hlp⟩ : ∃ lp, loopL l = lp := ⟨_, rfl⟩
              rw [hlp]
              clear hlp
              go_wp2_with fail
              refine (HQ.out _ HRX.out).mono ?_
              rintro e w11 ⟨A11, c11, rfl, hc11, hC11, hb11⟩
              have HB11 := Aside0.mk (below_then HBW.out HBW.out.size hb11)
              have HR_11 := Aside0.mk (Kd.C_below HRX.out hb11)
              have QA_11 := Aside0.mk (hC11)
              clear hb11
              clear hC11
              have HI3 := HI.out A11 c11 (ints r) w11 HR_11.out (by rw [ints_length]; exact QA_11.out) (by rw [ints_length]; exact hc11) (by rw [ints_length]; omega)
              rw [HFo.out, ints_length] at HI3
              have HI4r := Aside0.mk HI3
              clear HI3
              go_wp2_with fail
              refine (HI4r.out).mono ?_
              rintro e w12 ⟨rfl, hb12⟩
              have HB12 := Aside0.mk (below_then HB11.out HB11.out.size hb12)
              have HR_12 := Aside0.mk (Kd.C_below HR_11.out hb12)
              have QA_12 := Aside0.mk (Kd.C_below QA_11.out hb12)
              clear hb12
              go_wp2_with fail
              refine (HKn.out _ HR_12.out).mono ?_
              rintro e w13 ⟨A13, c13, rfl, hc13, hC13, hb13⟩
              have HB13 := Aside0.mk (below_then HB12.out HB12.out.size hb13)
              have HR_13 := Aside0.mk (Kd.C_below HR_12.out hb13)
              have QK_13 := Aside0.mk (hC13)
              clear hb13
              clear hC13
              go_wp2_with fail
              refine (alive_any _).mono ?_
              rintro e w14 ⟨rfl, hb14⟩
              have HB14 := Aside0.mk (below_then HB13.out HB13.out.size hb14)
              have HR_14 := Aside0.mk (Kd.C_below HR_13.out hb14)
              have QK_14 := Aside0.mk (Kd.C_below QK_13.out hb14)
              clear hb14
              go_wp2_with fail
              go_ret
              exact ⟨rfl, HB14.out⟩
        | some rk =>
          rw [hk0] at HKn hl2
          simp only [Option.getD_some, Option.isSome_some, if_true] at HKn hl2
          have hfd := HFk.out rk hk0
          have HFo2 := Aside0.mk hfd
          clear hk0 HFk hfd
          go_enter Try.func12, Try.ntmps12
          go_wp2_with fail
          refine (HF.out).mono ?_
          rintro e w1 ⟨rfl, hb1⟩
          have HB1 := Aside0.mk (hb1)
          have HR_1 := Aside0.mk (Kd.C_below HR.out hb1)
          clear hb1
          go_wp2_with fail
          refine (HV.out _ HR_1.out).mono ?_
          rintro e w2 ⟨rfl, hb2⟩
          have HB2 := Aside0.mk (below_then HB1.out HB1.out.size hb2)
          have HR_2 := Aside0.mk (Kd.C_below HR_1.out hb2)
          clear hb2
          have HRW := HR_2
          have HB0 := HB2
          go_wp2_with fail
          obtain ⟨W, rfl⟩ : ∃ W : World, W = w2 := ⟨_, rfl⟩
          go_loopw [5, 6] (fun v5 v6 wr => ∃ k : Nat, k ≤ l.length ∧ v6 = .int .i64 (k : Int) ∧ v5 = .bool (loopL (l.take k)) ∧ Aside0 (Below W.heap.size W wr)) (fun _ v _ => l.length - (intOf v).toNat)
          case atStart => exact ⟨0, Nat.zero_le _, rfl, rfl, ⟨Below.refl _ _⟩⟩
          case round =>
            obtain ⟨k, hk, rfl, rfl, HBr⟩ := hrel
            by_cases hkl : k < l.length
            · obtain ⟨a2, rfl, x0, x1⟩ := at_T43 (Kd.C_below HRW.out HBr.out) (k : Int) (by omega) (by omega)
              simp only [Int.toNat_natCast] at x0 x1
              have hsn := loopL_snoc l k hkl
              have k0 : (0 : Int) ≤ k := by omega
              have k1 : (k : Int) < l.length := by omega
              obtain ⟨p0, h0⟩ : ∃ p0, (rd_T43 l (k : Int)).f0 = p0 := ⟨_, rfl⟩
              obtain ⟨p1, h1⟩ : ∃ p1, (rd_T43 l (k : Int)).f1 = p1 := ⟨_, rfl⟩
              have h0' : (rd_T43 l k).f0 = p0 := h0
              have h1' : (rd_T43 l k).f1 = p1 := h1
              rw [h0] at x0
              rw [h1] at x1
              rw [h0', h1'] at hsn
              clear h0 h1 h0' h1'
              cases hb : loopL (l.take k) with
              | true =>
                rw [hb, Bool.true_or] at hsn
                have HSN := Aside0.mk hsn
                clear hsn hb
                go_wp2_with fail
                go_quiet (fail)
                go_wp2_with fail
                go_roundw
                case rel => exact ⟨k + 1, by omega, by go_num, by rw [HSN.out], ⟨pw_below_drewN HBr.out _⟩⟩
                case measure => simp [intOf]; try omega
              | false =>
                rw [hb, Bool.false_or] at hsn
                have HSN := Aside0.mk hsn
                clear hsn hb
                go_wp2_with fail
                go_quiet (fail)
                go_wp2_with fail
                go_roundw
                case rel => exact ⟨k + 1, by omega, by go_num, by rw [HSN.out], ⟨pw_below_drewN HBr.out _⟩⟩
                case measure => simp [intOf]; try omega
            · obtain rfl : k = l.length := by omega
              have HBW := Aside0.mk (below_then HB0.out HB0.out.size HBr.out)
              have HRX := Aside0.mk (Kd.C_below HRW.out HBr.out)
              rw [List.take_length]
              obtain ⟨lp, hlp⟩ : ∃ lp, loopL l = lp := ⟨_, rfl⟩
              rw [hlp]
              clear hlp
              go_wp2_with fail
              refine (HQ.out _ HRX.out).mono ?_
              rintro e w11 ⟨A11, c11, rfl, hc11, hC11, hb11⟩
              have HB11 := Aside0.mk (below_then HBW.out HBW.out.size hb11)
              have HR_11 := Aside0.mk (Kd.C_below HRX.out hb11)
              have QA_11 := Aside0.mk (hC11)
              clear hb11
              clear hC11
              have HI3 := HI.out A11 c11 (ints r) w11 HR_11.out (by rw [ints_length]; exact QA_11.out) (by rw [ints_length]; exact hc11) (by rw [ints_length]; omega)
              rw [HFo.out, ints_length] at HI3
              have HI4r := Aside0.mk HI3
              clear HI3
              go_wp2_with fail
              refine (HI4r.out).mono ?_
              rintro e w12 ⟨rfl, hb12⟩
              have HB12 := Aside0.mk (below_then HB11.out HB11.out.size hb12)
              have HR_12 := Aside0.mk (Kd.C_below HR_11.out hb12)
              have QA_12 := Aside0.mk (Kd.C_below QA_11.out hb12)
              clear hb12
              go_wp2_with fail
              refine (HKn.out _ HR_12.out).mono ?_
              rintro e w13 ⟨A13, c13, rfl, hc13, hC13, hb13⟩
              have HB13 := Aside0.mk (below_then HB12.out HB12.out.size hb13)
              have HR_13 := Aside0.mk (Kd.C_below HR_12.out hb13)
              have QK_13 := Aside0.mk (hC13)
              clear hb13
              clear hC13
              have HI3 := HI.out A13 c13 (ints rk) w13 HR_13.out (by rw [ints_length]; exact QK_13.out) (by rw [ints_length]; exact hc13) (by rw [ints_length]; omega)
              rw [HFo2.out, ints_length] at HI3
              have HI4rk := Aside0.mk HI3
              clear HI3
              go_wp2_with fail
              refine (HI4rk.out).mono ?_
              rintro e w14 ⟨rfl, hb14⟩
              have HB14 := Aside0.mk (below_then HB13.out HB13.out.size hb14)
              have HR_14 := Aside0.mk (Kd.C_below HR_13.out hb14)
              have QK_14 := Aside0.mk (Kd.C_below QK_13.out hb14)
              clear hb14
              go_wp2_with fail
              refine (alive_any _).mono ?_
              rintro e w15 ⟨rfl, hb15⟩
              have HB15 := Aside0.mk (below_then HB14.out HB14.out.size hb15)
              have HR_15 := Aside0.mk (Kd.C_below HR_14.out hb15)
              have QK_15 := Aside0.mk (Kd.C_below QK_14.out hb15)
              clear hb15
              go_wp2_with fail
              go_ret
              exact ⟨rfl, HB15.out⟩
    · have hev : (ofE n l == 0) = false := beq_eq_false_iff_ne.2 he
      rw [hev] at HV
      clear he hev
      go_enter Try.func12, Try.ntmps12
      go_wp2_with fail
      refine (HF.out).mono ?_
      rintro e w1 ⟨rfl, hb1⟩
      have HB1 := Aside0.mk (hb1)
      have HR_1 := Aside0.mk (Kd.C_below HR.out hb1)
      clear hb1
      go_wp2_with fail
      refine (HV.out _ HR_1.out).mono ?_
      rintro e w2 ⟨rfl, hb2⟩
      have HB2 := Aside0.mk (below_then HB1.out HB1.out.size hb2)
      have HR_2 := Aside0.mk (Kd.C_below HR_1.out hb2)
      clear hb2
      go_wp2_with fail
      refine (alive_any _).mono ?_
      rintro e w3 ⟨rfl, hb3⟩
      have HB3 := Aside0.mk (below_then HB2.out HB2.out.size hb3)
      have HR_3 := Aside0.mk (Kd.C_below HR_2.out hb3)
      clear hb3
      go_wp2_with fail
      go_ret
      exact ⟨rfl, HB3.out⟩
  · rw [decide_eq_false hf] at HF
    clear hf
    go_enter Try.func12, Try.ntmps12
    go_wp2_with fail
    refine (HF.out).mono ?_
    rintro e w1 ⟨rfl, hb1⟩
    have HB1 := Aside0.mk (hb1)
    clear hb1
    go_wp2_with fail
    refine (alive_any _).mono ?_
    rintro e w2 ⟨rfl, hb2⟩
    have HB2 := Aside0.mk (below_then HB1.out HB1.out.size hb2)
    clear hb2
    go_wp2_with fail
    go_ret
    exact ⟨rfl, HB2.out⟩
end Go.Proofs.Ytmobefgnkiboaaa.Im

namespace Go.Proofs.Ytmobefgnkiboaaa.Im
open Go.RowKit Go.ChangeShapes Go.WideShapes Go.Proofs.YtmobefgnkiboaaaW.PrintWords Go.Proofs.YtmobefgnkiboaaaW.PrintLast Go.Proofs.YtmobefgnkiboaaaW.PrintMore
theorem open_arcs {H : Type} {enc : TypeId × Value → H} {w : World} {base : Nat} {spare : Nat → Bool} {held : Bool} {fuel : Nat} {a : Option Addr} {len cap : Nat} {x : DataW H × List MemPlace}
    (h : DataW.trod enc Try.prog w base spare held fuel 22 [.slice a len cap] = some x) :
    ∃ l : List S43, len = l.length ∧ Kd.C k43 w a l.length l ∧ l.length ≤ cap := by
  rcases Go.Deep.open_slice_pairs Try.underlying22 Try.underlying43 (by kernel_rfl) rfl rfl (by kernel_rfl) (by kernel_rfl) h with ⟨hcs, _⟩ | ⟨b, len', cap', m, n, V0, V1, D0, D1, P0, P1, hcs, hb, hl, hm, hmm, hx, hi⟩
  · simp at hcs
    obtain ⟨rfl, rfl, rfl⟩ := hcs
    exact ⟨[], rfl, ⟨rfl, by simp, fun h => absurd h (by simp)⟩, Nat.le_refl _⟩
  · simp at hcs
    obtain ⟨rfl, rfl, rfl⟩ := hcs
    have hlm : len ≤ m := by rw [hmm]; split <;> omega
    have hint : ∀ i, i < m → ∃ p q : Int, V0 i = .int .i64 p ∧ V1 i = .int .i64 q := fun i him => by
      obtain ⟨_, _, t0, t1⟩ := hi i him
      obtain ⟨p, hp, _⟩ := DataW.trod_int Try.underlying3 t0
      obtain ⟨q, hq, _⟩ := DataW.trod_int Try.underlying3 t1
      exact ⟨p, q, by simpa using hp, by simpa using hq⟩
    let g : Nat → S43 := fun i => ⟨match V0 i with | .int _ p => p | _ => 0, match V1 i with | .int _ q => q | _ => 0⟩
    have hg0 : ∀ i, i < m → V0 i = .int .i64 (g i).f0 := fun i him => by
      obtain ⟨p, q, hp, hq⟩ := hint i him
      simp [g, hp]
    have hg1 : ∀ i, i < m → V1 i = .int .i64 (g i).f1 := fun i him => by
      obtain ⟨p, q, hp, hq⟩ := hint i him
      simp [g, hq]
    refine ⟨(List.range len).map g, by simp, ?_, by simpa using hl⟩
    have hll : ((List.range len).map g).length = len := by simp
    rw [hll]
    refine ⟨hll, by unfold maxLen at hm; omega, fun _ => ⟨b, rfl, fun j p hp => ?_⟩⟩
    have hj : j < len := by
      rcases Nat.lt_or_ge j len with h' | h'
      · exact h'
      · rw [List.getElem?_eq_none (by rw [hll]; exact h')] at hp; cases hp
    have hp' : p = g j := by
      rw [List.getElem?_map, List.getElem?_range hj] at hp
      simpa using hp.symm
    subst hp'
    refine ⟨_, rfl, k43_mk w (g j), fun i u hu => ?_⟩
    obtain ⟨c0, c1, _, _⟩ := hi j (by omega)
    rw [hg0 j (by omega)] at c0
    rw [hg1 j (by omega)] at c1
    match i, hu with
    | 0, hu => simp at hu; subst hu; exact c0
    | 1, hu => simp at hu; subst hu; exact c1
end Go.Proofs.Ytmobefgnkiboaaa.Im

