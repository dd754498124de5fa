/- Further parts of the same walk: contracts of the functions that the law reaches, each under the conditions that it states. -/
import Derived.Test.YtijaefmaceolbaaGreatDoorC4C
import Derived.Laws.RangeString
namespace Go.Proofs.YtijaefmaceolbaaGreatDoor.Im
open Go.RowKit Go.Proofs.YtijaefmaceolbaaGreatDoorW.PrintWords Go.Proofs.YtijaefmaceolbaaGreatDoorW.PrintLast Go.Proofs.YtijaefmaceolbaaGreatDoorW.PrintMore Go.Proofs.YtijaefmaceolbaaGreatDoor.Tr
set_option linter.unusedVariables false
set_option linter.unusedSimpArgs false
structure Keep (p : Nat → Prop) (w w' : World) : Prop where
  os : w'.os = w.os
  tape : w'.tape = w.tape
  output : w'.output = w.output
  size : w.heap.size ≤ w'.heap.size
  block : ∀ i, i < w.heap.size → p i → w'.heap[i]? = w.heap[i]?
theorem Keep.refl (p : Nat → Prop) (w : World) : Keep p w w := ⟨rfl, rfl, rfl, Nat.le_refl _, fun _ _ _ => rfl⟩
theorem Keep.trans {p : Nat → Prop} {w w1 w2 : World} (h : Keep p w w1) (k : Keep p w1 w2) : Keep p w w2 :=
  ⟨k.os.trans h.os, k.tape.trans h.tape, k.output.trans h.output, Nat.le_trans h.size k.size, fun i hi hp => (k.block i (Nat.lt_of_lt_of_le hi h.size) hp).trans (h.block i hi hp)⟩
theorem Keep.mono {p q : Nat → Prop} {w w' : World} (h : Keep p w w') (hq : ∀ i, i < w.heap.size → q i → p i) : Keep q w w' := ⟨h.os, h.tape, h.output, h.size, fun i hi hp => h.block i hi (hq i hi hp)⟩
theorem Keep.of_below {p : Nat → Prop} {w w' : World} (h : Below w.heap.size w w') : Keep p w w' := ⟨h.os, h.tape, h.output, h.size, fun i hi _ => h.block i hi⟩
theorem Keep.blk {p : Nat → Prop} {w w' : World} {g : Nat} {t : TypeId} {cs : Array Value} (h : Keep p w w') (hb : Blk w g t cs) (hp : p g) : Blk w' g t cs := (h.block g hb.lt hp).trans hb
theorem Keep.below {p : Nat → Prop} {w w' : World} {B : Nat} (h : Keep p w w') (hB : B ≤ w.heap.size) (hp : ∀ i, i < B → p i) : Below B w w' := ⟨h.os, h.tape, h.output, h.size, fun i hi => h.block i (Nat.lt_of_lt_of_le hi hB) (hp i hi)⟩
theorem next_ok {w : World} {r : Nat} {s : ByteArray} {pos : Nat} (h : w.heap[r]? = some (.stringIter s pos)) (hp : pos < s.size) (ha : (s[pos]'hp).toNat < 128) :
    ∃ w1, (∀ ty, (Instr.next (.pointer (some ⟨r, 0, none⟩)) true ty).run Tryz.prog w = .ok (.tuple #[.bool true, .int .i64 pos, .int .i32 (s[pos]'hp).toNat]) w1) ∧
      w1.heap[r]? = some (.stringIter s (pos + 1)) ∧ Keep (fun i => i ≠ r) w w1 ∧ w1.heap.size = w.heap.size := by
  have hr : r < w.heap.size := by
    rcases Nat.lt_or_ge r w.heap.size with h' | h'
    · exact h'
    · rw [Array.getElem?_eq_none h'] at h; cases h
  refine ⟨{ w with heap := w.heap.setIfInBounds r (.stringIter s (pos + 1)) }, fun ty => ?_, ?_, ⟨rfl, rfl, rfl, ?_, fun i hi hne => ?_⟩, ?_⟩
  · simp only [Instr.next, getObj, setObj, Sem.run_bind, Sem.run, h, Result.andThen, hp, if_true, decode_ascii s pos hp ha]
    simp [goInt, Sem.run, h]
  · simp [hr]
  · simp
  · simp only [Array.getElem?_setIfInBounds]
    rw [if_neg (fun e => hne e.symm)]
  · simp
theorem next_no {w : World} {r : Nat} {s : ByteArray} {pos : Nat} (h : w.heap[r]? = some (.stringIter s pos)) (hp : ¬ pos < s.size) :
    ∀ ty, (Instr.next (.pointer (some ⟨r, 0, none⟩)) true ty).run Tryz.prog w = .ok (.tuple #[.bool false]) w := fun ty => by
  simp [Instr.next, getObj, Sem.run, h, hp]
theorem good_run {σ : Type} {G : σ → Prop} {vis : σ → List T3 → Bool × σ} (h : ∀ st v, G st → (vis st v).1 = false → G (vis st v).2) : ∀ (l : List (List T3)) (st : σ), G st → (runV vis l st).1 = false → G (runV vis l st).2
  | [], st, hg, _ => hg
  | v :: l, st, hg, hf => by
    rw [runV] at hf ⊢
    by_cases hv : (vis st v).1 = true
    · rw [if_pos hv] at hf; cases hf
    · rw [if_neg hv] at hf ⊢
      exact good_run h l _ (h st v hg (by simpa using hv)) hf
structure VisitV {σ : Type} (I : (Nat → Prop) → σ → World → Prop) (G : σ → Prop) (f : FuncId) (cap : Array Value) (n : Nat) (B : List T3) (vis : σ → List T3 → Bool × σ) : Prop where
  enter : ∀ (args : Array Value) (w : World), (callFunc f args).run Tryz.prog w = .ok (.enter f args) w
  fresh : ∀ pr st w, I pr st w → ∀ i, pr i → i < w.heap.size
  step : ∀ pr pr' st w w', I pr st w → Keep (fun i => ¬ pr i) w w' → (∀ i, pr' i → pr i ∨ (w.heap.size ≤ i ∧ i < w'.heap.size)) → I pr' st w'
  stay : ∀ st v, G st → (vis st v).1 = false → G (vis st v).2
  calls : ∀ pr st v w, v.length = n → (∀ x ∈ v, x ∈ B) → G st → I pr st w → Calls Tryz.prog f (#[.string (strV v)] ++ cap) w (fun e w' => e = .returned (.bool (vis st v).1) ∧ I pr (vis st v).2 w' ∧ Keep pr w w')
structure EachV (pr : Nat → Prop) (w : World) (gs gv gb go : Nat) (A : Option Addr) (n c : Nat) (B : List T3) (f : FuncId) (cap : Array Value) : Prop where
  bs : Blk w gs 47 #[.slice A n c]
  bv : Blk w gv 58 #[.func (.func f) #[] cap]
  bb : Blk w gb 9 #[.string (strV B)]
  bo : Blk w go 58 #[.func (.func 65) #[] #[.pointer (some ⟨gs, 0, none⟩), .pointer (some ⟨gv, 0, none⟩), .pointer (some ⟨gb, 0, none⟩), .pointer (some ⟨go, 0, none⟩)]]
  ps : pr gs
  pv : pr gv
  pb : pr gb
  po : pr go
section
variable {pr : Nat → Prop} {w w' : World} {gs gv gb go : Nat} {A : Option Addr} {n c : Nat} {B : List T3} {f : FuncId} {cap : Array Value}
theorem EachV.keep (h : EachV pr w gs gv gb go A n c B f cap) (k : Keep pr w w') : EachV pr w' gs gv gb go A n c B f cap :=
  ⟨k.blk h.bs h.ps, k.blk h.bv h.pv, k.blk h.bb h.pb, k.blk h.bo h.po, h.ps, h.pv, h.pb, h.po⟩
theorem EachV.wider {pr' : Nat → Prop} (h : EachV pr w gs gv gb go A n c B f cap) (k : ∀ i, pr i → pr' i) : EachV pr' w gs gv gb go A n c B f cap :=
  ⟨h.bs, h.bv, h.bb, h.bo, k _ h.ps, k _ h.pv, k _ h.pb, k _ h.po⟩
end
def EachVPost {σ : Type} (I : (Nat → Prop) → σ → World → Prop) (pr : Nat → Prop) (w : World) (r : Bool × σ) (e : Ending) (w' : World) : Prop :=
  e = .returned (.bool r.1) ∧ I pr r.2 w' ∧ Keep pr w w'
theorem byte3_lt (c : T3) : (byte3 c).toNat < 128 := by rcases c with _ | (_ | _) <;> decide
theorem conv_rune (c : T3) : ∀ w, (convert 21 9 (.int .i32 ((byte3 c).toNat : Nat))).run Tryz.prog w = .ok (.string (strV [c])) w := by
  intro w
  rcases c with _ | (_ | _) <;> kernel_rfl
theorem strV_snoc (v : List T3) (c : T3) : strV v ++ strV [c] = strV (v ++ [c]) := by
  apply ByteArray.ext
  simp [strV]
theorem strV_get (v : List T3) (j : Nat) (h : j < v.length) (h' : j < (strV v).size) : (strV v)[j]'h' = byte3 v[j] := by
  show (strV v).data[j]'h' = _
  simp [strV]
set_option maxHeartbeats 3200000 in
set_option maxRecDepth 100000 in
theorem each1_v {σ : Type} {I : (Nat → Prop) → σ → World → Prop} {G : σ → Prop} {n : Nat} {B : List T3} {f : FuncId} {cap : Array Value} {vis : σ → List T3 → Bool × σ} (V : VisitV I G f cap n B vis) (gs gv gb go : Nat) (A : Option Addr) (c : Nat) (hn : n ≤ 10) (k : Nat) :
    ∀ (pr : Nat → Prop) (v : List T3) (st : σ) (w : World), v.length + k = n → (∀ x ∈ v, x ∈ B) → G st → I pr st w → EachV pr w gs gv gb go A n c B f cap →
    Calls Tryz.prog 65 #[.string (strV v), .pointer (some ⟨gs, 0, none⟩), .pointer (some ⟨gv, 0, none⟩), .pointer (some ⟨gb, 0, none⟩), .pointer (some ⟨go, 0, none⟩)] w
      (EachVPost I pr w (onV vis B k v st)) := by
  induction k with
  | zero =>
    intro pr v st w hv hB hG hI hE
    have HI := Aside0.mk hI
    have cs : w.cell? ⟨gs, 0, none⟩ = some (.slice A n c) := hE.bs.cell 0
    have cv : w.cell? ⟨gv, 0, none⟩ = some (.func (.func f) #[] cap) := hE.bv.cell 0
    have E0 := V.enter
    have C0 := Aside0.mk (fun (w' : World) (h : I pr st w') => V.calls pr st v w' (by omega) hB hG h)
    have hsz : ((strV v).size : Int) = (n : Int) := by rw [strV_size]; omega
    have KP := Aside0.mk (fun w' => V.step pr pr st w w' hI)
    rw [onV_zero]
    generalize vis st v = r at *
    generalize strV v = s at *
    have hsb : ((s.size : Int) == (n : Int)) = true := by rw [hsz]; simp
    clear hI hE V hv hB hsz hG
    go_enter Tryz.func65, Tryz.ntmps65
    go_wp2_with fail
    refine (C0.out _ HI.out).mono ?_
    rintro e w1 ⟨rfl, hI1, hk1⟩
    have HI1 := Aside0.mk hI1
    have HK1 := Aside0.mk hk1
    clear hI1 hk1
    go_wp2_with fail
    go_ret
    exact ⟨rfl, HI1.out, HK1.out⟩
  | succ k ih =>
    intro pr v st w hv hB hG hI hE
    have HI := Aside0.mk hI
    have HE := Aside0.mk hE
    have IH := Aside0.mk ih
    have cs : w.cell? ⟨gs, 0, none⟩ = some (.slice A n c) := hE.bs.cell 0
    have cb : w.cell? ⟨gb, 0, none⟩ = some (.string (strV B)) := hE.bb.cell 0
    have hsb : (((strV v).size : Int) == (n : Int)) = false := by rw [strV_size]; exact beq_eq_false_iff_ne.2 (by omega)
    have ST := Aside0.mk V.step
    have FR := Aside0.mk (V.fresh pr st w hI)
    have HV := Aside0.mk hv
    have HBB := Aside0.mk hB
    have HG0 := Aside0.mk hG
    have HGO : Aside0 (∀ (v : List T3) (st : σ), G st → (onV vis B k v st).1 = false → G (onV vis B k v st).2) := ⟨fun v st h h2 => good_run V.stay ((valsB B k).map (v ++ ·)) st h h2⟩
    clear hI hE ih V hv hB hG
    rw [onV_succ]
    go_enter Tryz.func65, Tryz.ntmps65
    go_wp2_with fail
    obtain ⟨pr2, hpr2⟩ : ∃ pr2 : Nat → Prop, pr2 = fun i => pr i ∨ i = w.heap.size := ⟨_, rfl⟩
    have hbel : Below w.heap.size w (w.iter (strV B) 0) := below_alloc (Below.refl _ _) _
    have HI1 := Aside0.mk (ST.out pr pr2 st w (w.iter (strV B) 0) HI.out (Keep.of_below hbel) (fun i hi => by rw [hpr2] at hi; exact hi.imp id (fun hi => ⟨by omega, by rw [hi]; simp [World.iter]⟩)))
    have HE1 := Aside0.mk (HE.out.keep (Keep.of_below hbel))
    have HK1 := Aside0.mk (Keep.of_below (p := pr) hbel)
    have HT1 := Aside0.mk (World.iter_heap w (strV B) 0)
    have HZ1 := Aside0.mk (show w.heap.size < (w.iter (strV B) 0).heap.size by simp [World.iter])
    have HP := Aside0.mk hpr2
    obtain ⟨it, hit⟩ : ∃ it, w.heap.size = it := ⟨_, rfl⟩
    rw [hit] at HT1 HP HZ1 FR ⊢
    have HIT := Aside0.mk hit
    clear hpr2 hbel HI HE hit cs cb
    generalize w.iter (strV B) 0 = W0 at *
    go_loopg [8] (B.length + 1) (fun kq v8 wr => ∃ (j : Nat) (st' : σ), Aside0 (j ≤ B.length) ∧ Aside0 (B.length - j < kq) ∧ Aside0 (lpV vis B k v B st = lpV vis B k v (B.drop j) st') ∧ Aside0 (I pr2 st' wr) ∧ Aside0 (G st') ∧ Aside0 (EachV pr wr gs gv gb go A n c B f cap) ∧ Aside0 (Keep pr w wr) ∧ Aside0 (it < wr.heap.size) ∧ Aside0 (wr.heap[it]? = some (.stringIter (strV B) j)))
    case atStart => exact ⟨0, st, ⟨Nat.zero_le _⟩, ⟨by omega⟩, ⟨rfl⟩, HI1, HG0, HE1, HK1, HZ1, HT1⟩
    case round =>
      clear HI1 HE1 HK1 HT1 HZ1 HG0
      obtain ⟨j, st', HJ, HQ, HL, HI, HG, HE, HK, HZ, HT⟩ := hrel
      have hpit : pr2 it := by rw [HP.out]; exact .inr rfl
      have hsub : ∀ i, pr i → pr2 i := fun i hi => by rw [HP.out]; exact .inl hi
      by_cases hj : j < B.length
      · have hjs : j < (strV B).size := by rw [strV_size]; exact hj
        obtain ⟨W1, hnx, hT1, hK1, hs1⟩ := next_ok HT.out hjs (by rw [strV_get B j hj hjs]; exact byte3_lt _)
        rw [strV_get B j hj hjs] at hnx
        have hd : B.drop j = B[j] :: B.drop (j + 1) := List.drop_eq_getElem_cons hj
        obtain ⟨x, hx⟩ : ∃ x, x = B[j] := ⟨_, rfl⟩
        have hxB : x ∈ B := by rw [hx]; exact List.getElem_mem hj
        rw [← hx] at hnx hd
        have hKp : Keep pr wr W1 := hK1.mono (fun i hi hp => by have := FR.out i hp; omega)
        have hE1 := HE.out.keep hKp
        have co : W1.cell? ⟨go, 0, none⟩ = some (.func (.func 65) #[] #[.pointer (some ⟨gs, 0, none⟩), .pointer (some ⟨gv, 0, none⟩), .pointer (some ⟨gb, 0, none⟩), .pointer (some ⟨go, 0, none⟩)]) := hE1.bo.cell 0
        have hI1 := ST.out pr2 pr2 st' wr W1 HI.out (hK1.mono (fun i hi hp e => hp (e ▸ hpit))) (fun i hi => .inl hi)
        have C1 := IH.out pr2 (v ++ [x]) st' W1 (by rw [List.length_append]; have := HV.out; simp; omega) (fun y hy => (List.mem_append.1 hy).elim (HBB.out y) (fun h => (List.mem_singleton.1 h).symm ▸ hxB)) HG.out hI1 (hE1.wider hsub)
        have hcv := conv_rune x
        have hst := strV_snoc v x
        have hcat : (strV v).size + (strV [x]).size ≤ 100 := by rw [strV_size, strV_size]; have := HV.out; simp; omega
        have hl := HL.out
        rw [hd, lpV] at hl
        have HKp := Aside0.mk (HK.out.trans hKp)
        have HJJ := Aside0.mk (show j + 1 ≤ B.length from hj)
        have HT1 := Aside0.mk hT1
        have HZ1 := Aside0.mk (show it < W1.heap.size by rw [hs1]; exact HZ.out)
        have HE1 := Aside0.mk hE1
        have HS := Aside0.mk hsub
        have HFR2 := Aside0.mk (fun (i : Nat) (hp : pr i) => (show i < it from FR.out i hp))
        obtain ⟨b2, st2, hr2⟩ : ∃ b2 st2, onV vis B k (v ++ [x]) st' = (b2, st2) := ⟨_, _, rfl⟩
        have hgo := HGO.out (v ++ [x]) st' HG.out
        rw [hr2] at C1 hl hgo
        have HG2 := Aside0.mk hgo
        clear hgo HG
        have HC1 := Aside0.mk C1
        generalize strV (v ++ [x]) = s2 at *
        generalize strV [x] = s1 at *
        clear hj hjs hT1 hK1 hs1 hd hx hxB hKp hE1 hI1 C1 hr2 HI HE HK HT HZ HL hpit hsub
        cases b2
        · rw [if_neg (by simp)] at hl
          have HL2 := Aside0.mk hl
          clear hl
          go_wp2_with fail
          refine HC1.out.mono ?_
          rintro e w2 ⟨rfl, hI2, hk2⟩
          have HI2 := Aside0.mk hI2
          have HK2 := Aside0.mk (HKp.out.trans (hk2.mono (fun i _ hi => HS.out i hi)))
          have HE2 := Aside0.mk (HE1.out.keep (hk2.mono (fun i _ hi => HS.out i hi)))
          have HT2 := Aside0.mk ((hk2.block it HZ1.out (by rw [HP.out]; exact .inr rfl)).trans HT1.out)
          have HZ2 := Aside0.mk (Nat.lt_of_lt_of_le HZ1.out hk2.size)
          clear hI2 hk2 co
          go_wp2_with fail
          go_roundg (gk - 1)
          case measure => have := HQ.out; omega
          case rel => exact ⟨j + 1, st2, HJJ, ⟨by have := HQ.out; have := HJJ.out; omega⟩, HL2, HI2, ⟨HG2.out (by trivial)⟩, HE2, HK2, HZ2, HT2⟩
        · rw [if_pos rfl] at hl
          have HL2 := Aside0.mk hl
          clear hl
          go_wp2_with fail
          refine HC1.out.mono ?_
          rintro e w2 ⟨rfl, hI2, hk2⟩
          have HI2 := Aside0.mk (ST.out pr2 pr st2 w2 w2 hI2 (Keep.refl _ _) (fun i hi => .inl (HS.out i hi)))
          have HK2 := Aside0.mk (HKp.out.trans (hk2.mono (fun i _ hi => HS.out i hi)))
          clear hI2 hk2 co
          go_wp2_with fail
          go_ret
          exact ⟨by rw [HL2.out]; rfl, by rw [HL2.out]; exact HI2.out, HK2.out⟩
      · have hjs : ¬ j < (strV B).size := by rw [strV_size]; exact hj
        have hnx := next_no HT.out hjs
        have hl := HL.out
        rw [List.drop_eq_nil_of_le (by omega), lpV] at hl
        have HL2 := Aside0.mk hl
        have HI2 := Aside0.mk (ST.out pr2 pr st' wr wr HI.out (Keep.refl _ _) (fun i hi => .inl (hsub i hi)))
        clear hj hjs hl HL HT hpit hsub
        go_wp2_with fail
        go_ret
        exact ⟨by rw [HL2.out]; rfl, by rw [HL2.out]; exact HI2.out, HK.out⟩
set_option maxHeartbeats 1600000 in
set_option maxRecDepth 100000 in
theorem each_v {σ : Type} {I : (Nat → Prop) → σ → World → Prop} {G : σ → Prop} {n : Nat} {B : List T3} {f : FuncId} {cap : Array Value} {vis : σ → List T3 → Bool × σ} (V : VisitV I G f cap n B vis) (hn : n ≤ 10) (A : Option Addr) (c : Nat)
    (st : σ) (w : World) (hG : G st) (hI : ∀ pr w', Below w.heap.size w w' → (∀ i, pr i → w.heap.size ≤ i ∧ i < w'.heap.size) → I pr st w') :
    Calls Tryz.prog 33 #[.slice A n c, .string (strV B), .func (.func f) #[] cap] w fun e w' => ∃ pr, EachVPost I pr w (runV vis (valsB B n) st) e w' := by
  have hmf : ∀ (fn : Fn) (first cap : Array Value) (w : World), (Instr.makeFunc fn first cap).run Tryz.prog w = .ok (.func fn first cap) w := fun _ _ _ _ => rfl
  have hsf := fun (a : Addr) (c : Array Value) (w : World) => run_store Tryz.prog w a (.func (.func 65) #[] c) .plain rfl
  obtain ⟨pr, hpr⟩ : ∃ pr : Nat → Prop, pr = fun i => w.heap.size ≤ i ∧ i < w.heap.size + 4 := ⟨_, rfl⟩
  have hb : Below w.heap.size w ((((w.alloc (.cells #[.slice A n c] 47)).alloc (.cells #[.string (strV B)] 9)).alloc (.cells #[.func (.func f) #[] cap] 58)).alloc (.cells #[.func (.func 65) #[] #[.pointer (some ⟨w.heap.size, 0, none⟩), .pointer (some ⟨w.heap.size + 1 + 1, 0, none⟩), .pointer (some ⟨w.heap.size + 1, 0, none⟩), .pointer (some ⟨w.heap.size + 1 + 1 + 1, 0, none⟩)]] 58)) :=
    below_alloc (below_alloc (below_alloc (below_alloc (Below.refl _ _) _) _) _) _
  have C := each1_v V w.heap.size (w.heap.size + 1 + 1) (w.heap.size + 1) (w.heap.size + 1 + 1 + 1) A c hn n pr [] st _ (by simp) (by simp) hG (hI pr _ hb (fun i hi => by rw [hpr] at hi; exact ⟨hi.1, by simp; omega⟩))
    ⟨(((Blk.new w _ _).alloc _).alloc _).alloc _, (Blk.new' (by simp)).alloc _, ((Blk.new' (by simp)).alloc _).alloc _, Blk.new' (by simp), by rw [hpr]; exact ⟨by omega, by omega⟩, by rw [hpr]; exact ⟨by omega, by omega⟩, by rw [hpr]; exact ⟨by omega, by omega⟩, by rw [hpr]; exact ⟨by omega, by omega⟩⟩
  rw [onV_all] at C
  have e0 : strV [] = ⟨#[]⟩ := rfl
  rw [e0] at C
  have HC := Aside0.mk C
  have HB := Aside0.mk hb
  have HP := Aside0.mk hpr
  clear hb C V hI e0 hpr hG
  generalize runV vis (valsB B n) st = r at *
  generalize strV B = s at *
  go_enter Tryz.func33, Tryz.ntmps33
  go_wp2_with fail

  refine HC.out.mono ?_
  rintro e w1 ⟨rfl, hI1, hk1⟩
  have HI1 := Aside0.mk hI1
  have HK1 := Aside0.mk ((Keep.of_below (p := pr) HB.out).trans hk1)
  clear hI1 hk1
  go_wp2_with fail
  go_ret
  exact ⟨pr, rfl, HI1.out, HK1.out⟩
end Go.Proofs.YtijaefmaceolbaaGreatDoor.Im

namespace Go.Proofs.YtijaefmaceolbaaGreatDoor.Im
open Go.RowKit Go.Proofs.YtijaefmaceolbaaGreatDoorW.PrintWords Go.Proofs.YtijaefmaceolbaaGreatDoorW.PrintLast Go.Proofs.YtijaefmaceolbaaGreatDoorW.PrintMore Go.Proofs.YtijaefmaceolbaaGreatDoor.Tr
set_option linter.unusedVariables false
set_option linter.unusedSimpArgs false
structure Own2 (w0 : World) (gs go : Nat) (t : TypeId) (sl u : Value) (pr : Nat → Prop) (w : World) : Prop where
  bel : Below w0.heap.size w0 w
  bs : Blk w gs 47 #[sl]
  bo : Blk w go t #[u]
  prot : ∀ i, pr i → i ≠ gs ∧ i ≠ go ∧ w0.heap.size ≤ i ∧ i < w.heap.size
  ne : gs ≠ go
  les : w0.heap.size ≤ gs
  leo : w0.heap.size ≤ go
section
variable {w0 w w' : World} {gs go : Nat} {t : TypeId} {sl u : Value} {pr pr' : Nat → Prop}
theorem Own2.step (h : Own2 w0 gs go t sl u pr w) (k : Keep (fun i => ¬ pr i) w w') (hp : ∀ i, pr' i → pr i ∨ (w.heap.size ≤ i ∧ i < w'.heap.size)) : Own2 w0 gs go t sl u pr' w' :=
  ⟨⟨k.os.trans h.bel.os, k.tape.trans h.bel.tape, k.output.trans h.bel.output, Nat.le_trans h.bel.size k.size, fun i hi => (k.block i (Nat.lt_of_lt_of_le hi h.bel.size) (fun hp => by have := (h.prot i hp).2.2.1; omega)).trans (h.bel.block i hi)⟩,
   k.blk h.bs (fun hp => (h.prot _ hp).1 rfl), k.blk h.bo (fun hp => (h.prot _ hp).2.1 rfl),
   fun i hi => by
    rcases hp i hi with h1 | ⟨h1, h2⟩
    · obtain ⟨a, b, c, d⟩ := h.prot i h1
      exact ⟨a, b, c, Nat.lt_of_lt_of_le d k.size⟩
    · have := h.bs.lt; have := h.bo.lt; have := h.les
      exact ⟨by omega, by omega, by omega, h2⟩, h.ne, h.les, h.leo⟩
theorem Own2.below (h : Own2 w0 gs go t sl u pr w) (k : Below w.heap.size w w') : Own2 w0 gs go t sl u pr w' := h.step (Keep.of_below k) (fun _ hi => .inl hi)
theorem Own2.start (h : Own2 w0 gs go t sl u (fun _ => False) w) (k : Below w.heap.size w w') (hp : ∀ i, pr i → w.heap.size ≤ i ∧ i < w'.heap.size) : Own2 w0 gs go t sl u pr w' := h.step (Keep.of_below k) (fun i hi => .inr (hp i hi))
end
theorem toL_strV (a : List T3) : (strV a).toList = a.map byte3 := by
  have : (strV a) = ⟨(a.map byte3).toArray⟩ := rfl
  rw [this, ByteArray.toList_mk]
theorem eqS (a b : List T3) : ((strV a).toList == (strV b).toList) = decide (a = b) := by
  by_cases h : a = b
  · subst h; simp
  · rw [decide_eq_false h, beq_eq_false_iff_ne, toL_strV, toL_strV]
    intro e
    apply h
    apply strV_inj
    unfold strV
    rw [e]
theorem Own2.put {w0 w : World} {gs go : Nat} {t : TypeId} {sl u : Value} {pr : Nat → Prop} (h : Own2 w0 gs go t sl u pr w) (u' : Value) : Own2 w0 gs go t sl u' pr (w.setCell ⟨go, 0, none⟩ u') ∧ Keep pr w (w.setCell ⟨go, 0, none⟩ u') :=
  ⟨⟨h.bel.trans (below_setc h.leo), h.bs.far h.ne _, h.bo.set_ 0 u', fun i hi => by have := h.prot i hi; simpa [World.setCell] using this, h.ne, h.les, h.leo⟩,
   ⟨rfl, rfl, rfl, by simp [World.setCell], fun i _ hp => Below.heap_setCell w _ _ i (h.prot i hp).2.1⟩⟩
where
  below_setc {B : Nat} {w : World} {go : Nat} {v : Value} (h : B ≤ go) : Below B w (w.setCell ⟨go, 0, none⟩ v) := (Below.refl B w).setCell h _
theorem cf65 (args : Array Value) (w : World) : (callFunc 35 args).run Tryz.prog w = .ok (.enter 35 args) w := by kernel_rfl
set_option maxHeartbeats 800000 in
set_option maxRecDepth 100000 in
theorem first1_v {n : Nat} {fs : List Fm} (S : Tr.Sys n fs) (w0 : World) (A : Option Addr) (c : Nat) (hC : Kd.C kF w0 A n fs) (hc : n ≤ c) (gs go : Nat) :
    VisitV (fun pr (st : List T3) w => Own2 w0 gs go 9 (.slice A n c) (.string (strV st)) pr w) (fun _ => True) 35 #[.pointer (some ⟨go, 0, none⟩), .pointer (some ⟨gs, 0, none⟩)] n base2 (visF fs) where
  enter := cf65
  fresh := fun pr st w h i hi => (h.prot i hi).2.2.2
  step := fun pr pr' st w w' h k hp => h.step k hp
  stay := fun _ _ _ _ => trivial
  calls := fun pr st v w hv hB _ hI => by
    have cs : w.cell? ⟨gs, 0, none⟩ = some (.slice A n c) := hI.bs.cell 0
    have co : w.cell? ⟨go, 0, none⟩ = some (.string (strV st)) := hI.bo.cell 0
    have fo : w.frozen? ⟨go, 0, none⟩ = false := hI.bo.frozen 0
    have HN := Aside0.mk (fun w1 (h : Below w0.heap.size w0 w1) => next_any S hv w1 A c (Kd.C_below hC h) hc)
    have HI := Aside0.mk hI
    have HR := Aside0.mk (eqS (nextV fs v) v)
    have hne : ¬ gs = go := hI.ne
    have hvis : visF fs st v = (decide (nextV fs v = v), v) := rfl
    rw [hvis]
    clear hI hC hvis hv hB
    generalize decide (nextV fs v = v) = b at *
    obtain ⟨s, hs⟩ : ∃ s, strV v = s := ⟨_, rfl⟩
    obtain ⟨s2, hs2⟩ : ∃ s2, strV (nextV fs v) = s2 := ⟨_, rfl⟩
    rw [hs, hs2] at HR
    rw [hs] at HN
    rw [hs2] at HN
    have HV := Aside0.mk hs
    rw [hs]
    clear hs hs2
    show Calls Tryz.prog 35 #[.string s, .pointer (some ⟨go, 0, none⟩), .pointer (some ⟨gs, 0, none⟩)] w _
    go_enter Tryz.func35, Tryz.ntmps35
    go_wp2_with fail
    have h1 := HI.out.put (.string s)
    refine (HN.out _ h1.1.bel).mono ?_
    rintro e w2 ⟨rfl, hb2⟩
    have HI2 := Aside0.mk (h1.1.below hb2)
    have HK2 := Aside0.mk (h1.2.trans (Keep.of_below hb2))
    have hr := HR.out
    clear h1 hb2
    go_wp2_with fail
    go_ret
    exact ⟨rfl, HI2.out, HK2.out⟩
theorem own2_new (w1 : World) (sl u : Value) (t : TypeId) : Own2 w1 w1.heap.size (w1.heap.size + 1) t sl u (fun _ => False) ((w1.alloc (.cells #[sl] 47)).alloc (.cells #[u] t)) :=
  ⟨below_alloc (below_alloc (Below.refl _ _) _) _, (Blk.new _ _ _).alloc _, Blk.new' (by simp), fun i hi => hi.elim, by omega, by omega, by omega⟩
def firstO (l : List (List UInt8)) : ByteArray × Int :=
  if sysE l = 0 then (match (valsB base2 l.length).find? (fixB (sysF l)) with | some v => (strV v, 0) | none => (str0, 10)) else (str0, sysE l)
set_option maxHeartbeats 1600000 in
set_option maxRecDepth 100000 in
theorem first_call (l : List (List UInt8)) (w : World) (A : Option Addr) (c : Nat) (hr : Kd.C Kd.string w A l.length (l.map strL)) :
    Calls Tryz.prog 15 #[.slice A l.length c] w (OutS (firstO l) w) := by
  by_cases h0 : sysE l = 0
  · have S := sys_ok h0
    have HO := Aside0.mk (of_good h0 w A c hr)
    have HR := Aside0.mk (show firstO l = (match (valsB base2 l.length).find? (fixB (sysF l)) with | some v => (strV v, 0) | none => (str0, 10)) by unfold firstO; rw [if_pos h0])
    obtain ⟨n, hn⟩ : ∃ n, l.length = n := ⟨_, rfl⟩
    rw [hn] at HO S HR ⊢
    have HE := Aside0.mk (fun (w1 : World) (A : Option Addr) (c : Nat) (hC : Kd.C kF w1 A n (sysF l)) (hc : n ≤ c) =>
      each_v (first1_v S w1 A c hC hc w1.heap.size (w1.heap.size + 1)) S.n10 A c [] ((w1.alloc (.cells #[.slice A n c] 47)).alloc (.cells #[.string ⟨#[]⟩] 9)) trivial (fun pr w' hb hp => (own2_new w1 (.slice A n c) (.string ⟨#[]⟩) 9).start hb hp))
    have HF := Aside0.mk (run_first (sysF l) (valsB base2 n) [])
    have e2 : strV base2 = ⟨#[48, 49]⟩ := rfl
    rw [e2] at HE
    clear hr S h0 hn e2
    generalize runV (visF (sysF l)) (valsB base2 n) [] = r at *
    have hmf : ∀ (fn : Fn) (first cap : Array Value) (w : World), (Instr.makeFunc fn first cap).run Tryz.prog w = .ok (.func fn first cap) w := fun _ _ _ _ => rfl
    go_enter Tryz.func15, Tryz.ntmps15
    go_wp2_with (first | (go_at_call 27; refine HO.out.mono ?_; rintro e w1 ⟨A1, c1, hc1, rfl, hC, hb⟩; have HC := Aside0.mk hC; have HB := Aside0.mk hb; have HCC := Aside0.mk hc1; clear hC hb hc1))
    refine (HE.out w1 A1 c1 HC.out HCC.out).mono ?_
    rintro e w2 ⟨pr, rfl, hI, hk⟩
    have co : w2.cell? ⟨w1.heap.size + 1, 0, none⟩ = some (.string (strV r.2)) := hI.bo.cell 0
    have HB2 := Aside0.mk (below_then HB.out HB.out.size hI.bel)
    have hr1 := HF.out.1
    have hr2 := HF.out.2
    clear hI hk
    obtain ⟨b, st⟩ := r
    cases hfi : (valsB base2 n).find? (fixB (sysF l)) with
    | none =>
      have hb : b = false := by
        rw [show b = (valsB base2 n).any (fixB (sysF l)) from hr1, List.any_eq_false]
        exact List.find?_eq_none.1 hfi
      have HQ := Aside0.mk (HR.out.trans (by rw [hfi]))
      subst hb
      clear hr1 hr2 hfi HR HF
      go_wp2_with fail
      go_ret2
      exact ⟨by rw [HQ.out]; rfl, HB2.out⟩
    | some v =>
      have hb : b = true := by
        rw [show b = (valsB base2 n).any (fixB (sysF l)) from hr1, List.any_eq_true]
        exact ⟨v, List.mem_of_find?_eq_some hfi, List.find?_some hfi⟩
      have hv : st = v := hr2 v hfi
      have HQ := Aside0.mk (HR.out.trans (by rw [hfi]))
      subst hb
      subst hv
      clear hr1 hr2 hfi HR HF
      go_wp2_with fail
      go_ret2
      exact ⟨by rw [HQ.out]; rfl, HB2.out⟩
  · have HR := Aside0.mk (show firstO l = (str0, sysE l) by unfold firstO; rw [if_neg h0])
    have HO := Aside0.mk (of_bad h0 w A c hr)
    have hne : (sysE l != 0) = true := bne_iff_ne.2 h0
    clear h0 hr
    generalize sysE l = x at *
    go_enter Tryz.func15, Tryz.ntmps15
    go_wp2_with (first | (go_at_call 27; refine HO.out.mono ?_; rintro e w1 ⟨rfl, hb⟩; have HB := Aside0.mk hb; clear hb))
    go_ret2
    exact ⟨by rw [HR.out]; rfl, below_alloc HB.out _⟩
end Go.Proofs.YtijaefmaceolbaaGreatDoor.Im

namespace Go.Proofs.YtijaefmaceolbaaGreatDoor.Im
open Go.RowKit Go.Proofs.YtijaefmaceolbaaGreatDoorW.PrintWords Go.Proofs.YtijaefmaceolbaaGreatDoorW.PrintLast Go.Proofs.YtijaefmaceolbaaGreatDoorW.PrintMore Go.Proofs.YtijaefmaceolbaaGreatDoor.Tr
set_option linter.unusedVariables false
set_option linter.unusedSimpArgs false
section
variable {w0 w w' : World} {gs go : Nat} {t : TypeId} {sl u : Value} {pr pr' : Nat → Prop}
theorem Own2.grown (h : Own2 w0 gs go t sl u pr w) {row : Option Nat} (k : w.grownBy w' row) (hr : ∀ i, row = some i → i ≠ gs ∧ i ≠ go ∧ w0.heap.size ≤ i ∧ ¬ pr i) : Own2 w0 gs go t sl u pr w' ∧ Keep pr w w' :=
  ⟨⟨h.bel.grown k h.bel.size (fun i hi => (hr i hi).2.2.1), h.bs.gb k (fun e => (hr _ e.symm).1 rfl), h.bo.gb k (fun e => (hr _ e.symm).2.1 rfl),
    fun i hi => by obtain ⟨a, b, c, d⟩ := h.prot i hi; exact ⟨a, b, c, Nat.lt_of_lt_of_le d k.size⟩, h.ne, h.les, h.leo⟩,
   ⟨k.os, k.tape, k.output, k.size, fun i hi hp => k.block i hi (fun e => (hr i e.symm).2.2.2 hp)⟩⟩
end
def FixI (w0 : World) (gs go : Nat) (sl : Value) (pr : Nat → Prop) (st : List (List T3)) (w : World) : Prop :=
  ∃ v, Own2 w0 gs go 22 sl v pr w ∧ Kd.R Kd.string 9 w w0.heap.size (fun k => ¬ pr k ∧ k ≠ gs ∧ k ≠ go) v (st.map strV)
theorem FixI.step {w0 w w' : World} {gs go : Nat} {sl : Value} {pr pr' : Nat → Prop} {st : List (List T3)} (h : FixI w0 gs go sl pr st w) (k : Keep (fun i => ¬ pr i) w w') (hp : ∀ i, pr' i → pr i ∨ (w.heap.size ≤ i ∧ i < w'.heap.size)) : FixI w0 gs go sl pr' st w' := by
  obtain ⟨v, ho, hr⟩ := h
  refine ⟨v, ho.step k hp, ?_⟩
  refine Kd.R_mono (Kd.R_step (Kd.R_bound hr) (fun i hi hlt => k.block i hlt hi.1.1)) ?_
  intro i hi
  exact ⟨fun hp' => (hp i hp').elim hi.1.1 (fun h => by have := hi.2.2.1; omega), hi.1.2⟩
theorem infoS : (Tryz.prog.info? 9).map (fun i => (i.zero, i.size, i.bytes)) = some (some (.string ⟨#[]⟩), 1, 16) := info9
theorem dec1000 (m : Nat) : decide (1000 < (m : Int)) = decide (1000 < m) := by
  by_cases h : 1000 < m
  · rw [decide_eq_true h, decide_eq_true (by omega)]
  · rw [decide_eq_false h, decide_eq_false (by omega)]
theorem cf95 (args : Array Value) (w : World) : (callFunc 64 args).run Tryz.prog w = .ok (.enter 64 args) w := by kernel_rfl
set_option maxHeartbeats 1600000 in
set_option maxRecDepth 100000 in
theorem fixed1_v {n : Nat} {fs : List Fm} (S : Tr.Sys n fs) (w0 : World) (A : Option Addr) (c : Nat) (hC : Kd.C kF w0 A n fs) (hc : n ≤ c) (gs go : Nat) :
    VisitV (FixI w0 gs go (.slice A n c)) (fun st => st.length ≤ 1000) 64 #[.pointer (some ⟨gs, 0, none⟩), .pointer (some ⟨go, 0, none⟩)] n base3 (visX fs) where
  enter := cf95
  fresh := fun pr st w h i hi => by obtain ⟨v, ho, _⟩ := h; exact (ho.prot i hi).2.2.2
  step := fun pr pr' st w w' h k hp => h.step k hp
  stay := fun st v _ hf => by
    have : decide (1000 < (visX fs st v).2.length) = false := hf
    have := of_decide_eq_false this
    omega
  calls := fun pr st v w hv hB hG hI => by
    obtain ⟨vo, hO, hR⟩ := hI
    obtain ⟨Ao, co, rfl⟩ := Kd.R_slice hR
    have hml : (st.map strV).length = st.length := List.length_map _
    rw [hml] at hO hR
    have cs : w.cell? ⟨gs, 0, none⟩ = some (.slice A n c) := hO.bs.cell 0
    have HN := Aside0.mk (fun w1 (h : Below w0.heap.size w0 w1) => next_any S hv w1 A c (Kd.C_below hC h) hc)
    have HO := Aside0.mk hO
    have HRR := Aside0.mk hR
    have HR := Aside0.mk (eqS (nextV fs v) v)
    have HG := Aside0.mk hG
    have hne : ¬ gs = go := hO.ne
    have hvis : visX fs st v = (decide (1000 < (if decide (nextV fs v = v) = true then st ++ [v] else st).length), if decide (nextV fs v = v) = true then st ++ [v] else st) := rfl
    rw [hvis]
    clear hO hR hC hvis hB hv hml hG
    generalize decide (nextV fs v = v) = b at *
    obtain ⟨s, hs⟩ : ∃ s, strV v = s := ⟨_, rfl⟩
    rw [hs] at HN HR ⊢
    have HV := Aside0.mk hs
    clear hs
    generalize strV (nextV fs v) = s2 at *
    show Calls Tryz.prog 64 #[.string s, .pointer (some ⟨gs, 0, none⟩), .pointer (some ⟨go, 0, none⟩)] w _
    cases b
    · rw [if_neg (by simp)]
      go_enter Tryz.func64, Tryz.ntmps64
      go_wp2_with fail
      refine (HN.out _ HO.out.bel).mono ?_
      rintro e w2 ⟨rfl, hb2⟩
      have HO2 := Aside0.mk (HO.out.below hb2)
      have HK2 := Aside0.mk (Keep.of_below (p := pr) hb2)
      have HR2 := Aside0.mk (Kd.R_below HRR.out hb2)
      have hr := HR.out
      have coo : w2.cell? ⟨go, 0, none⟩ = some (.slice Ao st.length co) := HO2.out.bo.cell 0
      have hd : decide (1000 < (st.length : Int)) = false := decide_eq_false (by have := HG.out; omega)
      have HD := Aside0.mk (dec1000 st.length)
      clear hb2
      go_wp2_with fail
      go_ret
      exact ⟨by rw [← HD.out, hd]; rfl, ⟨_, HO2.out, HR2.out⟩, HK2.out⟩
    · rw [if_pos rfl]
      have HL := Aside0.mk (show (st.map strV).length ≤ 1000 by rw [List.length_map]; exact HG.out)
      have hmap : st.map strV ++ [s] = (st ++ [v]).map strV := by rw [List.map_append, ← HV.out]; rfl
      have hlen : (st.map strV ++ [s]).length = (st ++ [v]).length := by rw [hmap, List.length_map]
      have HM := Aside0.mk hmap
      have HLE := Aside0.mk hlen
      have hst2 : (st ++ [v]).length ≤ 1001 := by have := HG.out; rw [List.length_append]; simp; omega
      have HD := Aside0.mk (dec1000 (st ++ [v]).length)
      obtain ⟨m, hm⟩ : ∃ m, (st ++ [v]).length = m := ⟨_, rfl⟩
      rw [hm] at HLE HD hst2
      have HMM := Aside0.mk hm
      clear hmap hlen hm
      go_enter Tryz.func64, Tryz.ntmps64
      go_wp2_with fail
      refine (HN.out _ HO.out.bel).mono ?_
      rintro e w2 ⟨rfl, hb2⟩
      have HO2 := Aside0.mk (HO.out.below hb2)
      have HK2 := Aside0.mk (Keep.of_below (p := pr) hb2)
      have HR2 := Aside0.mk (Kd.R_below HRR.out hb2)
      have hr := HR.out
      have coo : w2.cell? ⟨go, 0, none⟩ = some (.slice Ao st.length co) := HO2.out.bo.cell 0
      have foo : w2.frozen? ⟨go, 0, none⟩ = false := HO2.out.bo.frozen 0
      clear hb2
      go_wp2_with (first | ((with_reducible refine gate_builtin (b := .append) (xs := #[.tmp 10, .tmp 12]) rfl ?_); at_builtin; refine Kd.R_append Kd.string (w0 := w0) w0.heap.size rfl (.tmp 10) (.tmp 12) 22 9 (.string ⟨#[]⟩) 16 rfl Tryz.underlying22 infoS rfl (by decide) (by omega) _ (st.map strV) s [.string s] (fun k => ¬ pr k ∧ k ≠ gs ∧ k ≠ go) (fun _ => False) rfl rfl ?aP (fun _ hk => hk.elim) ?aF ?aO ?aB ?aS ?aL ?_; (case aP => exact rfl); (case aF => exact (fun i hi => ⟨fun hp => by have := (HO2.out.prot i hp).2.2.2; omega, by have := HO2.out.bs.lt; omega, by have := HO2.out.bo.lt; omega⟩)); (case aO => exact HR2.out); (case aB => exact HO2.out.bel); (case aS => exact HO2.out.bel.size); (case aL => have := HL.out; omega); intro v1 w3 ho hb hg hat; have hO3 := HO2.out.grown hg (fun i hi => ⟨(HR2.out.1 i hi).2.1, (HR2.out.1 i hi).2.2, Kd.R_base HR2.out i hi, (HR2.out.1 i hi).1⟩); have HO3 := Aside0.mk hO3.1; have HK3 := Aside0.mk (HK2.out.trans hO3.2); obtain ⟨A1, c1, rfl⟩ := Kd.R_slice ho; rw [HLE.out] at ho; have HR3 := Aside0.mk ho; clear ho hb hg hat hO3; rw [HLE.out]; have foo3 : w3.frozen? ⟨go, 0, none⟩ = false := HO3.out.bo.frozen 0; have coo3 := HO3.out.bo.cell 0))
      go_ret
      have hp := HO3.out.put (.slice A1 m c1)
      refine ⟨(by rw [HMM.out, ← HD.out]; rfl), ⟨_, hp.1, ?_⟩, HK3.out.trans hp.2⟩
      rw [HM.out] at HR3
      exact Kd.R_far HR3.out (fun i hi => hi.2.2) _
def FixedPost (r : Bool × List (List T3)) (w : World) (e : Ending) (w' : World) : Prop :=
  ∃ v, e = .returned (.tuple #[v, .bool (!r.1)]) ∧ Kd.R Kd.string 9 w' w.heap.size (fun _ => True) v (r.2.map strV) ∧ Below w.heap.size w w'
theorem fixI_new (w1 : World) (sl : Value) : FixI w1 w1.heap.size (w1.heap.size + 1) sl (fun _ => False) [] ((w1.alloc (.cells #[sl] 47)).alloc (.cells #[.slice none 0 0] 22)) :=
  ⟨_, own2_new w1 sl (.slice none 0 0) 22, Kd.R_nil _ _ _ _ _⟩
set_option maxHeartbeats 800000 in
set_option maxRecDepth 100000 in
theorem fixed_any {n : Nat} {fs : List Fm} (S : Tr.Sys n fs) (w : World) (A : Option Addr) (c : Nat) (hC : Kd.C kF w A n fs) (hc : n ≤ c) :
    Calls Tryz.prog 32 #[.slice A n c] w (FixedPost (runV (visX fs) (valsB base3 n) []) w) := by
  have HE := Aside0.mk (each_v (fixed1_v S w A c hC hc w.heap.size (w.heap.size + 1)) S.n10 A c [] ((w.alloc (.cells #[.slice A n c] 47)).alloc (.cells #[.slice none 0 0] 22)) (by simp) (fun pr w' hb hp => (fixI_new w (.slice A n c)).step (Keep.of_below hb) (fun i hi => .inr (hp i hi))))
  have e2 : strV base3 = ⟨#[48, 49, 63]⟩ := rfl
  rw [e2] at HE
  clear hC S e2
  generalize runV (visX fs) (valsB base3 n) [] = r at *
  have hmf : ∀ (fn : Fn) (first cap : Array Value) (w : World), (Instr.makeFunc fn first cap).run Tryz.prog w = .ok (.func fn first cap) w := fun _ _ _ _ => rfl
  go_enter Tryz.func32, Tryz.ntmps32
  go_wp2_with fail
  refine HE.out.mono ?_
  rintro e w2 ⟨pr, rfl, ⟨v, ho, hr⟩, hk⟩
  obtain ⟨A2, c2, rfl⟩ := Kd.R_slice hr
  have co := ho.bo.cell 0
  have HB2 := Aside0.mk ho.bel
  have HR2 := Aside0.mk (Kd.R_mono hr (fun _ _ => trivial))
  clear hk hr ho
  rw [List.length_map] at co HR2
  go_wp2_with fail
  go_ret2
  exact ⟨.slice A2 r.2.length c2, rfl, HR2.out, HB2.out⟩
def OutT (r : List (List T3) × Int) (w : World) (e : Ending) (w' : World) : Prop :=
  ∃ v, e = .returned (.tuple #[v, .int .i64 r.2]) ∧ Kd.R Kd.string 9 w' w.heap.size (fun _ => True) v (r.1.map strV) ∧ Below w.heap.size w w'
def fixedO (l : List (List UInt8)) : List (List T3) × Int :=
  if sysE l = 0 then (if 1000 < (fixL (sysF l)).length then ([], 8) else (fixL (sysF l), 0)) else ([], sysE l)
theorem run_fix {n : Nat} {fs : List Fm} (S : Tr.Sys n fs) : (runV (visX fs) (valsB base3 n) []).1 = decide (1000 < (fixL fs).length) ∧ (¬ 1000 < (fixL fs).length → (runV (visX fs) (valsB base3 n) []).2 = fixL fs) := by
  obtain ⟨h1, h2, _⟩ := run_fixed fs (valsB base3 n) [] (by simp)
  have e : ([] : List (List T3)) ++ (valsB base3 n).filter (fixB fs) = fixL fs := by rw [List.nil_append]; unfold fixL; rw [S.len]
  rw [e] at h1 h2
  exact ⟨h1, fun h => h2 (by rw [h1]; exact decide_eq_false h)⟩
set_option maxHeartbeats 800000 in
set_option maxRecDepth 100000 in
theorem fixed_call (l : List (List UInt8)) (w : World) (A : Option Addr) (c : Nat) (hr : Kd.C Kd.string w A l.length (l.map strL)) :
    Calls Tryz.prog 13 #[.slice A l.length c] w (OutT (fixedO l) w) := by
  by_cases h0 : sysE l = 0
  · have S := sys_ok h0
    have HO := Aside0.mk (of_good h0 w A c hr)
    have hf := run_fix S
    obtain ⟨n, hn⟩ : ∃ n, l.length = n := ⟨_, rfl⟩
    rw [hn] at HO S hf ⊢
    have HE := Aside0.mk (fun (w1 : World) (A : Option Addr) (c : Nat) (hC : Kd.C kF w1 A n (sysF l)) (hc : n ≤ c) => fixed_any S w1 A c hC hc)
    generalize runV (visX (sysF l)) (valsB base3 n) [] = r at *
    obtain ⟨b, out⟩ := r
    by_cases hm : 1000 < (fixL (sysF l)).length
    · have HR := Aside0.mk (show fixedO l = ([], 8) by unfold fixedO; rw [if_pos h0, if_pos hm])
      have hb : b = true := hf.1.trans (decide_eq_true hm)
      subst hb
      clear hr S h0 hn hf hm
      go_enter Tryz.func13, Tryz.ntmps13
      go_wp2_with (first | (go_at_call 27; refine HO.out.mono ?_; rintro e w1 ⟨A1, c1, hc1, rfl, hC, hb⟩; have HC := Aside0.mk hC; have HB := Aside0.mk hb; have HCC := Aside0.mk hc1; clear hC hb hc1) | (go_at_call 32; refine (HE.out _ _ _ HC.out HCC.out).mono ?_; rintro e w2 ⟨v, rfl, hR, hb2⟩; have HB2 := Aside0.mk (below_then HB.out HB.out.size hb2); clear hR hb2))
      go_ret2
      exact ⟨.slice none 0 0, (by rw [HR.out]; rfl), by rw [HR.out]; exact Kd.R_nil _ _ _ _ _, HB2.out⟩
    · have HR := Aside0.mk (show fixedO l = (fixL (sysF l), 0) by unfold fixedO; rw [if_pos h0, if_neg hm])
      have hb : b = false := hf.1.trans (decide_eq_false hm)
      have ho : out = fixL (sysF l) := hf.2 hm
      subst hb
      subst ho
      clear hr S h0 hn hf hm
      go_enter Tryz.func13, Tryz.ntmps13
      go_wp2_with (first | (go_at_call 27; refine HO.out.mono ?_; rintro e w1 ⟨A1, c1, hc1, rfl, hC, hb⟩; have HC := Aside0.mk hC; have HB := Aside0.mk hb; have HCC := Aside0.mk hc1; clear hC hb hc1) | (go_at_call 32; refine (HE.out _ _ _ HC.out HCC.out).mono ?_; rintro e w2 ⟨v, rfl, hR, hb2⟩; have HB2 := Aside0.mk (below_then HB.out HB.out.size hb2); have HR2 := Aside0.mk (Kd.R_lower hR HB.out.size); clear hR hb2))
      go_ret2
      exact ⟨v, (by rw [HR.out]; rfl), by rw [HR.out]; exact HR2.out, HB2.out⟩
  · have HR := Aside0.mk (show fixedO l = ([], sysE l) by unfold fixedO; rw [if_neg h0])
    have HO := Aside0.mk (of_bad h0 w A c hr)
    have hne : (sysE l != 0) = true := bne_iff_ne.2 h0
    clear h0 hr
    generalize sysE l = x at *
    go_enter Tryz.func13, Tryz.ntmps13
    go_wp2_with (first | (go_at_call 27; refine HO.out.mono ?_; rintro e w1 ⟨rfl, hb⟩; have HB := Aside0.mk hb; clear hb))
    go_ret2
    exact ⟨.slice none 0 0, (by rw [HR.out]; rfl), by rw [HR.out]; exact Kd.R_nil _ _ _ _ _, HB.out⟩
end Go.Proofs.YtijaefmaceolbaaGreatDoor.Im

