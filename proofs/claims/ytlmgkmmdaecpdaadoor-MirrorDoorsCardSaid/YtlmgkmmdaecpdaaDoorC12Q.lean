/- Further parts of the same walk: contracts of the functions that the law reaches, each under the conditions that it states. -/
import Derived.Test.YtlmgkmmdaecpdaaDoorC12P
import Derived.Test.YtlmgkmmdaecpdaaDoorRows
import Derived.HandedShaped
import Derived.Shelf.Vars
import Derived.MakeChecks
import Derived.FnData
import Derived.OpenShut
import Derived.ProofKit
import Derived.LaidMore
namespace Go.Proofs.YtlmgkmmdaecpdaaDoor.Im
open Go.RowKit Go.ChangeShapes Go.WideShapes Go.Proofs.YtlmgkmmdaecpdaaDoorW.PrintWords Go.Proofs.YtlmgkmmdaecpdaaDoorW.PrintLast Go.Proofs.YtlmgkmmdaecpdaaDoorW.PrintMore
set_option linter.unusedVariables false
theorem handed_laid_shaped {H : Type} {enc : TypeId × Value → H} {a : Assume} {C : Checked} {os : Os} {f : FuncId} {fn : Func} {s : ChangeSpec} {conds : List PathCond} {apart fresh handsOn again : Bool} {X : World → Array Value → Prop}
    (hX : ∀ (w w' : World) (args : Array Value), w.heap = w'.heap → X w args → X w' args)
    (own : ownKnob C.prog.godebug = none) (started : os.Started) (noInit : C.prog.inits.idxOf? f = none) (hfn : C.prog.funcs[f]? = some fn)
    (witness : ∃ (w : World) (tape : Tape) (i : Input), w.os = os ∧ (w.forCall tape i).Shaped C.prog ∧ i.vars = [] ∧ Input.okWide C.prog (w.forCall tape i) .any w.heap.size f i ∧
      ((s.pre enc C.prog fn conds apart (w.forCall tape i).memory i.args ∧ X (w.forCall tape i).memory i.args) ∧ sizedMet enc C.prog fn (OpenSpec.ofChange s) apart (w.forCall tape i).memory i.args) ∧ a.holds C.prog (lone (Frame.enter C.prog f i.args .normal) [] (w.forCall tape i)))
    (contract : ∀ (W : World) (base : Nat) (args : Array Value) (ds gs : List (DataW H)) (before : List MemPlace),
      (∀ (j : Nat) t v, fn.params[j]? = some t → args[j]? = some v → Value.okWide C.prog W .any base t v) →
      DataW.Whole enc C.prog fn.params.toList s.vars apart W args.toList ds gs before →
      X W args → W.ShapedOpen C.prog →
      Calls C.prog f args W fun e W' => ∃ v, e = .returned v ∧ s.post enc C.prog fn apart fresh handsOn again W args v W') :
    ReturnsInHanded a C os f .any (fun w args => (s.pre enc C.prog fn conds apart w args ∧ X w args) ∧ sizedMet enc C.prog fn (OpenSpec.ofChange s) apart w args) (s.post enc C.prog fn apart fresh handsOn again) := by
  refine returnsInHanded_of_calls own started noInit witness ?_
  intro w tape i _ hsh _ hok hpre hholds
  obtain ⟨_, _, _, fn', hfn', _, _, _, _, hval⟩ := hok
  have e : fn' = fn := Option.some.inj (hfn'.symm.trans hfn)
  subst e
  obtain ⟨⟨⟨ds, gs, before, hw, hc⟩, hx⟩, hz⟩ := hpre
  have hw' := DataW.Whole.of_heap (w' := w.forCall tape i) (by rfl) hw
  refine (contract (w.forCall tape i) w.heap.size i.args ds gs before hval hw' (hX _ _ _ (by rfl) hx) hsh).mono fun e W' ⟨v, he, hp⟩ => ?_
  subst he
  exact ChangeSpec.post_blind hp
theorem mirror_max {W : World} (h : W.ShapedOpen Tryd.prog) : ∃ mL : Int, W.cell? ⟨1, 0, none⟩ = some (.int .i64 mL) :=
  cell_of_shapedOpen_int h (of_decide_eq_true (by kernel_rfl)) (t := 3) (zero := #[.int .i64 0]) (by kernel_rfl) rfl (by kernel_rfl) (by kernel_rfl) Tryd.underlying3
theorem steps_read (r k : Nat) (hr : r < 6) (hk : k < 2) (ys : List (DataW Unit)) (z : Int) (e4 : [DataW.agg [.lit (.int .i64 0), .lit (.int .i64 (-1))], .agg [.lit (.int .i64 0), .lit (.int .i64 1)], .agg [.lit (.int .i64 (-1)), .lit (.int .i64 0)], .agg [.lit (.int .i64 (-1)), .lit (.int .i64 1)], .agg [.lit (.int .i64 1), .lit (.int .i64 (-1))], .agg [.lit (.int .i64 1), .lit (.int .i64 0)]][r]? = some (.agg ys)) (e5 : ys[k]? = some (.lit (.int .i64 z))) : z = if k = 0 then stA r else stB r := by
  have hr' : r = 0 ∨ r = 1 ∨ r = 2 ∨ r = 3 ∨ r = 4 ∨ r = 5 := by omega
  have hk' : k = 0 ∨ k = 1 := by omega
  rcases hr' with rfl | rfl | rfl | rfl | rfl | rfl <;>
  · have e6 := DataW.agg.inj (Option.some.inj e4)
    subst e6
    rcases hk' with rfl | rfl <;>
    · have e8 := Lit.int.inj (DataW.lit.inj (Option.some.inj e5))
      exact e8.2.symm
theorem mirror_steps {W : World} (hL : laidMetH Tryd.prog [("unicode/utf8.acceptRanges", Rows.laid_unicode_utf8_acceptRanges), ("pomade/mirror.steps", Rows.laid_pomade_mirror_steps), ("unicode/utf8.first", Rows.laid_unicode_utf8_first)] W) (hsh : W.ShapedOpen Tryd.prog) : Steps W := by
  rw [MakeChecks.laidMetH_plain _ _ _ (by kernel_rfl)] at hL
  obtain ⟨ps, ⟨_, _, _, _, _, q, _, _, _, _, ⟨g, t, cs, fuel, p, q', hg, ht, hv, hd, _, _⟩, _⟩, _, _⟩ := hL
  obtain rfl := Option.some.inj ((show Tryd.prog.globalNamed "pomade/mirror.steps" = some 0 by kernel_rfl).symm.trans hg)
  obtain rfl := Option.some.inj ((show (Tryd.prog.globals[0]?).map (·.type) = some 121 by kernel_rfl).symm.trans ht)
  obtain ⟨cs', hh, hs, _⟩ := hsh.1 0 #[.int .i64 0, .int .i64 0, .int .i64 0, .int .i64 0, .int .i64 0, .int .i64 0, .int .i64 0, .int .i64 0, .int .i64 0, .int .i64 0, .int .i64 0, .int .i64 0] 121 (of_decide_eq_true (by kernel_rfl)) (by kernel_rfl)
  have hcell : ∀ i, W.cell? ⟨0, i, none⟩ = cs[i]? := fun i => World.var?_cell hg hv i
  obtain ⟨xs, m, _, ex, _, hl, hel⟩ := DataW.trod_array Tryd.underlying121 hd
  have cP : Tryd.prog.cellsOf 95 = 2 := by kernel_rfl
  have cI : Tryd.prog.cellsOf 3 = 1 := by kernel_rfl
  have ex1 : (xs.map (·.1)) = [.agg [.lit (.int .i64 0), .lit (.int .i64 (-1))], .agg [.lit (.int .i64 0), .lit (.int .i64 1)], .agg [.lit (.int .i64 (-1)), .lit (.int .i64 0)], .agg [.lit (.int .i64 (-1)), .lit (.int .i64 1)], .agg [.lit (.int .i64 1), .lit (.int .i64 (-1))], .agg [.lit (.int .i64 1), .lit (.int .i64 0)]] := (DataW.agg.inj (Prod.mk.inj ex).1).symm
  have key : ∀ r, r < 6 → ∀ k, k < 2 → cs[r * 2 + k]? = some (.int .i64 (if k = 0 then stA r else stB r)) := fun r hr k hk => by
    have hE := hel r hr
    rw [cP, List.getElem?_eq_getElem (by omega)] at hE
    obtain ⟨ys, m2, _, ey, _, hl2, hel2⟩ := DataW.trod_array Tryd.underlying95 hE
    have hE2 := hel2 k hk
    rw [cI, Nat.mul_one, List.getElem?_eq_getElem (by omega)] at hE2
    obtain ⟨z, e1, e2, _⟩ := DataW.trod_int Tryd.underlying3 hE2
    have e4 : (xs.map (·.1))[r]? = some (.agg (ys.map (·.1))) := by
      rw [List.getElem?_map, List.getElem?_eq_getElem (by omega : r < xs.length)]
      exact congrArg some (Prod.mk.inj ey).1
    rw [ex1] at e4
    have e5 : (ys.map (·.1))[k]? = some (.lit (.int .i64 z)) := by
      rw [List.getElem?_map, List.getElem?_eq_getElem (by omega : k < ys.length)]
      exact congrArg (fun x => some x.1) e2
    have hz := steps_read r k hr hk _ z e4 e5
    have h0 : ((((cs.toList.drop (r * 2)).take 2).drop k).take 1)[0]? = some (.int .i64 z) := by rw [e1]; rfl
    rw [← hz]
    simpa [hk, List.getElem?_take, List.getElem?_drop] using h0
  have hcs : cs' = stepsA := by
    apply Array.ext
    · rw [hs]; rfl
    · intro i h1 h2
      have hi : i < 12 := h2
      have e1 : W.cell? ⟨0, i, none⟩ = cs'[i]? := cell_of_row W 0 i cs' 121 (0, 0) hh
      have e2 := key (i / 2) (by omega) (i % 2) (by omega)
      rw [show i / 2 * 2 + i % 2 = i by omega, ← hcell, e1, Array.getElem?_eq_getElem h1] at e2
      have e3 := Option.some.inj e2
      rw [e3]
      match i, hi with
      | 0, _ | 1, _ | 2, _ | 3, _ | 4, _ | 5, _ | 6, _ | 7, _ | 8, _ | 9, _ | 10, _ | 11, _ => rfl
  rw [hcs] at hh
  exact hh
end Go.Proofs.YtlmgkmmdaecpdaaDoor.Im

