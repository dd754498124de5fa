/- Further parts of the same walk: contracts of the functions that the law reaches, each under the conditions that it states. -/
import Derived.Test.YtijaefmaceolbaaDoorC8B
import Derived.Shelf.Strings.Search3
import Derived.Shelf.Strings.SlTrimAscii
import Derived.Shelf.Strings.Builder1
import Derived.Shelf.Strings.Builder2
import Derived.Shelf.Strings.Repeat
import Derived.Shelf.Strings.Count
namespace Go.Proofs
open Go.Shelf
def Tryd.lays144_ren : Go.Shelf.Ren := ⟨fun | 144 => 115 | 143 => 114 | 219 => 122 | 217 => 126 | 225 => 127 | 224 => 128 | 267 => 129 | 266 => 132 | 314 => 133 | n => n, fun | 9 => 9 | 4 => 4 | 3 => 3 | 5 => 5 | 46 => 107 | 146 => 137 | 51 => 136 | n => n, fun | 1 => 0 | n => n⟩
theorem Tryd.lays144 : Go.Proofs.Lays.n144 Tryd.prog Tryd.lays144_ren := {
  mixed := by kernel_rfl
  f143 := Tryd.func114.trans (congrArg some (by kernel_rfl))
  f144 := Tryd.func115.trans (congrArg some (by kernel_rfl))
  f217 := Tryd.func126.trans (congrArg some (by kernel_rfl))
  f219 := Tryd.func122.trans (congrArg some (by kernel_rfl))
  f224 := Tryd.func128.trans (congrArg some (by kernel_rfl))
  f225 := Tryd.func127.trans (congrArg some (by kernel_rfl))
  f266 := Tryd.func132.trans (congrArg some (by kernel_rfl))
  f267 := Tryd.func129.trans (congrArg some (by kernel_rfl))
  f314 := Tryd.func133.trans (congrArg some (by kernel_rfl))
  t3 := Tryd.underlying3
  a3 := Tryd.isAgg3
  z3 := Tryd.sizeOf3
  v3 := Tryd.zeroValue3
  t4 := Tryd.underlying4
  a4 := Tryd.isAgg4
  z4 := Tryd.sizeOf4
  v4 := Tryd.zeroValue4
  t5 := Tryd.underlying5
  a5 := Tryd.isAgg5
  z5 := Tryd.sizeOf5
  v5 := Tryd.zeroValue5
  t9 := Tryd.underlying9
  a9 := Tryd.isAgg9
  z9 := Tryd.sizeOf9
  v9 := Tryd.zeroValue9
  t46 := Tryd.underlying107
  a46 := Tryd.isAgg107
  z46 := Tryd.sizeOf107
  v46 := Tryd.zeroValue107
  t51 := Tryd.underlying136
  a51 := Tryd.isAgg136
  z51 := Tryd.sizeOf136
  v51 := Tryd.zeroValue136
  t146 := Tryd.underlying137
  a146 := Tryd.isAgg137
  z146 := Tryd.sizeOf137
  v146 := Tryd.zeroValue137
  g1 := by kernel_rfl }
def Tryd.lays160_ren : Go.Shelf.Ren := ⟨fun | 160 => 87 | 232 => 101 | 231 => 100 | 227 => 102 | 234 => 104 | 233 => 103 | 236 => 106 | 235 => 105 | 228 => 116 | 271 => 119 | 151 => 118 | 197 => 117 | 120 => 125 | 152 => 124 | 260 => 123 | 137 => 130 | 119 => 131 | 224 => 128 | 225 => 127 | 217 => 126 | 266 => 132 | n => n, fun | 9 => 9 | 4 => 4 | 3 => 3 | 5 => 5 | 117 => 132 | 116 => 131 | 0 => 0 | 124 => 135 | 21 => 21 | 105 => 150 | 46 => 107 | 119 => 158 | 139 => 161 | 138 => 160 | n => n, fun | 3 => 1 | 4 => 2 | n => n⟩
theorem Tryd.lays160 : Go.Proofs.Lays.n160 Tryd.prog Tryd.lays160_ren := {
  mixed := by kernel_rfl
  f119 := Tryd.func131.trans (congrArg some (by kernel_rfl))
  f120 := Tryd.func125.trans (congrArg some (by kernel_rfl))
  f137 := Tryd.func130.trans (congrArg some (by kernel_rfl))
  f151 := Tryd.func118.trans (congrArg some (by kernel_rfl))
  f152 := Tryd.func124.trans (congrArg some (by kernel_rfl))
  f160 := Tryd.func87.trans (congrArg some (by kernel_rfl))
  f197 := Tryd.func117.trans (congrArg some (by kernel_rfl))
  f217 := Tryd.func126.trans (congrArg some (by kernel_rfl))
  f224 := Tryd.func128.trans (congrArg some (by kernel_rfl))
  f225 := Tryd.func127.trans (congrArg some (by kernel_rfl))
  f227 := Tryd.func102.trans (congrArg some (by kernel_rfl))
  f228 := Tryd.func116.trans (congrArg some (by kernel_rfl))
  f231 := Tryd.func100.trans (congrArg some (by kernel_rfl))
  f232 := Tryd.func101.trans (congrArg some (by kernel_rfl))
  f233 := Tryd.func103.trans (congrArg some (by kernel_rfl))
  f234 := Tryd.func104.trans (congrArg some (by kernel_rfl))
  f235 := Tryd.func105.trans (congrArg some (by kernel_rfl))
  f236 := Tryd.func106.trans (congrArg some (by kernel_rfl))
  f260 := Tryd.func123.trans (congrArg some (by kernel_rfl))
  f266 := Tryd.func132.trans (congrArg some (by kernel_rfl))
  f271 := Tryd.func119.trans (congrArg some (by kernel_rfl))
  t0 := Tryd.underlying0
  a0 := Tryd.isAgg0
  z0 := Tryd.sizeOf0
  v0 := Tryd.zeroValue0
  t3 := Tryd.underlying3
  a3 := Tryd.isAgg3
  z3 := Tryd.sizeOf3
  v3 := Tryd.zeroValue3
  t4 := Tryd.underlying4
  a4 := Tryd.isAgg4
  z4 := Tryd.sizeOf4
  v4 := Tryd.zeroValue4
  t5 := Tryd.underlying5
  a5 := Tryd.isAgg5
  z5 := Tryd.sizeOf5
  v5 := Tryd.zeroValue5
  t9 := Tryd.underlying9
  a9 := Tryd.isAgg9
  z9 := Tryd.sizeOf9
  v9 := Tryd.zeroValue9
  t21 := Tryd.underlying21
  a21 := Tryd.isAgg21
  z21 := Tryd.sizeOf21
  v21 := Tryd.zeroValue21
  t46 := Tryd.underlying107
  a46 := Tryd.isAgg107
  z46 := Tryd.sizeOf107
  v46 := Tryd.zeroValue107
  t105 := Tryd.underlying150
  a105 := Tryd.isAgg150
  z105 := Tryd.sizeOf150
  v105 := Tryd.zeroValue150
  t116 := Tryd.underlying131
  a116 := Tryd.isAgg131
  z116 := Tryd.sizeOf131
  t117 := Tryd.underlying132
  a117 := Tryd.isAgg132
  z117 := Tryd.sizeOf132
  v117 := Tryd.zeroValue132
  t119 := Tryd.underlying158
  a119 := Tryd.isAgg158
  z119 := Tryd.sizeOf158
  t124 := Tryd.underlying135
  a124 := Tryd.isAgg135
  z124 := Tryd.sizeOf135
  v124 := Tryd.zeroValue135
  t138 := Tryd.underlying160
  a138 := Tryd.isAgg160
  z138 := Tryd.sizeOf160
  v138 := Tryd.zeroValue160
  t139 := Tryd.underlying161
  a139 := Tryd.isAgg161
  z139 := Tryd.sizeOf161
  v139 := Tryd.zeroValue161
  g3 := by kernel_rfl
  g4 := by kernel_rfl }
def Tryd.lays105_ren : Go.Shelf.Ren := ⟨fun | 105 => 68 | 212 => 89 | 99 => 90 | 165 => 91 | 166 => 92 | 170 => 93 | 169 => 94 | 263 => 107 | 264 => 108 | 206 => 109 | 240 => 110 | 241 => 111 | 276 => 120 | 277 => 121 | n => n, fun | 9 => 9 | 3 => 3 | 4 => 4 | 20 => 20 | 0 => 0 | 46 => 107 | 109 => 108 | 5 => 5 | 72 => 112 | 76 => 116 | 51 => 136 | 146 => 137 | 53 => 139 | 148 => 140 | 70 => 110 | 37 => 49 | 75 => 115 | 127 => 142 | 164 => 153 | 80 => 119 | n => n, fun | n => n⟩
theorem Tryd.lays105 : Go.Proofs.Lays.n105 Tryd.prog Tryd.lays105_ren := {
  mixed := by kernel_rfl
  f99 := Tryd.func90.trans (congrArg some (by kernel_rfl))
  f105 := Tryd.func68.trans (congrArg some (by kernel_rfl))
  f165 := Tryd.func91.trans (congrArg some (by kernel_rfl))
  f166 := Tryd.func92.trans (congrArg some (by kernel_rfl))
  f169 := Tryd.func94.trans (congrArg some (by kernel_rfl))
  f170 := Tryd.func93.trans (congrArg some (by kernel_rfl))
  f206 := Tryd.func109.trans (congrArg some (by kernel_rfl))
  f212 := Tryd.func89.trans (congrArg some (by kernel_rfl))
  f240 := Tryd.func110.trans (congrArg some (by kernel_rfl))
  f241 := Tryd.func111.trans (congrArg some (by kernel_rfl))
  f263 := Tryd.func107.trans (congrArg some (by kernel_rfl))
  f264 := Tryd.func108.trans (congrArg some (by kernel_rfl))
  f276 := Tryd.func120.trans (congrArg some (by kernel_rfl))
  f277 := Tryd.func121.trans (congrArg some (by kernel_rfl))
  t0 := Tryd.underlying0
  a0 := Tryd.isAgg0
  z0 := Tryd.sizeOf0
  v0 := Tryd.zeroValue0
  t3 := Tryd.underlying3
  a3 := Tryd.isAgg3
  z3 := Tryd.sizeOf3
  v3 := Tryd.zeroValue3
  t4 := Tryd.underlying4
  a4 := Tryd.isAgg4
  z4 := Tryd.sizeOf4
  v4 := Tryd.zeroValue4
  t5 := Tryd.underlying5
  a5 := Tryd.isAgg5
  z5 := Tryd.sizeOf5
  v5 := Tryd.zeroValue5
  t9 := Tryd.underlying9
  a9 := Tryd.isAgg9
  z9 := Tryd.sizeOf9
  v9 := Tryd.zeroValue9
  t20 := Tryd.underlying20
  a20 := Tryd.isAgg20
  z20 := Tryd.sizeOf20
  v20 := Tryd.zeroValue20
  t37 := Tryd.underlying49
  a37 := Tryd.isAgg49
  z37 := Tryd.sizeOf49
  v37 := Tryd.zeroValue49
  t46 := Tryd.underlying107
  a46 := Tryd.isAgg107
  z46 := Tryd.sizeOf107
  v46 := Tryd.zeroValue107
  t51 := Tryd.underlying136
  a51 := Tryd.isAgg136
  z51 := Tryd.sizeOf136
  v51 := Tryd.zeroValue136
  t53 := Tryd.underlying139
  a53 := Tryd.isAgg139
  z53 := Tryd.sizeOf139
  v53 := Tryd.zeroValue139
  t70 := Tryd.underlying110
  a70 := Tryd.isAgg110
  z70 := Tryd.sizeOf110
  v70 := Tryd.zeroValue110
  t72 := Tryd.underlying112
  a72 := Tryd.isAgg112
  z72 := Tryd.sizeOf112
  v72 := Tryd.zeroValue112
  t75 := Tryd.underlying115
  a75 := Tryd.isAgg115
  z75 := Tryd.sizeOf115
  v75 := Tryd.zeroValue115
  t76 := Tryd.underlying116
  a76 := Tryd.isAgg116
  z76 := Tryd.sizeOf116
  v76 := Tryd.zeroValue116
  t109 := Tryd.underlying108
  a109 := Tryd.isAgg108
  z109 := Tryd.sizeOf108
  v109 := Tryd.zeroValue108
  t127 := Tryd.underlying142
  a127 := Tryd.isAgg142
  z127 := Tryd.sizeOf142
  v127 := Tryd.zeroValue142
  t146 := Tryd.underlying137
  a146 := Tryd.isAgg137
  z146 := Tryd.sizeOf137
  v146 := Tryd.zeroValue137
  t148 := Tryd.underlying140
  a148 := Tryd.isAgg140
  z148 := Tryd.sizeOf140
  v148 := Tryd.zeroValue140
  t164 := Tryd.underlying153
  a164 := Tryd.isAgg153
  z164 := Tryd.sizeOf153
  v164 := Tryd.zeroValue153 }
theorem Tryd.Builder_Extra_105 : Builder.Extra Tryd.prog Tryd.lays105_ren := {
  sizeBuilder := by kernel_rfl
  liesBuilder := by kernel_rfl
  t5 := Tryd.underlying5
  a5 := Tryd.isAgg5
  z5 := Tryd.sizeOf5
  v5 := Tryd.zeroValue5
  infoByte := by kernel_rfl
  cellsByte := by kernel_rfl
  sizeByte := by kernel_rfl
  neB5 := by decide }
end Go.Proofs

namespace Go.Proofs.YtijaefmaceolbaaDoor.Im
open Go.RowKit Go.Proofs.YtijaefmaceolbaaDoorW.PrintWords Go.Proofs.YtijaefmaceolbaaDoorW.PrintLast Go.Proofs.YtijaefmaceolbaaDoorW.PrintMore Go.Proofs.YtijaefmaceolbaaDoor.Tr
set_option linter.unusedVariables false
theorem has_op (o : UInt8) : decide (0 ≤ Lib.indexByte [38, 124, 61] o) = (opOf o).isSome := by
  unfold opOf
  by_cases h1 : o = 38
  · subst h1; decide
  by_cases h2 : o = 124
  · subst h2; decide
  by_cases h3 : o = 61
  · subst h3; decide
  rw [if_neg h1, if_neg h2, if_neg h3]
  have e1 : ¬ (38 : UInt8) = o := fun h => h1 h.symm
  have e2 : ¬ (124 : UInt8) = o := fun h => h2 h.symm
  have e3 : ¬ (61 : UInt8) = o := fun h => h3 h.symm
  simp [Lib.indexByte, e1, e2, e3]
theorem has_c : HasC := fun o w => (Any.strings_Contains_one Tryd.lays144 ⟨#[38, 124, 61]⟩ o w).mono fun e w' ⟨h1, h2⟩ => ⟨by rw [h2]; exact Below.refl _ _, by rw [h1]; exact congrArg (fun b => Ending.returned (.bool b)) (has_op o)⟩
end Go.Proofs.YtijaefmaceolbaaDoor.Im

namespace Go.Proofs.YtijaefmaceolbaaDoor.Im
open Go.RowKit Go.Proofs.YtijaefmaceolbaaDoorW.PrintWords Go.Proofs.YtijaefmaceolbaaDoorW.PrintLast Go.Proofs.YtijaefmaceolbaaDoorW.PrintMore Go.Proofs.YtijaefmaceolbaaDoor.Tr
attribute [local go_sem] max2_int min2_int max_two min_two max_three min_three max_four min_four
set_option linter.unusedVariables false
set_option linter.unusedSimpArgs false
theorem infoF : (Tryd.prog.info? 92).map (fun i => (i.zero, i.size, i.bytes)) = some (some .nilIface, 1, 16) := by kernel_rfl
def OfPost (l : List (List UInt8)) (w : World) (e : Ending) (w' : World) : Prop :=
  ∃ v, e = .returned (.tuple #[v, .int .i64 (sysE l)]) ∧ Below w.heap.size w w' ∧ (sysE l = 0 → Kd.R kF 92 w' w.heap.size (fun _ => True) v (sysF l)) ∧ (sysE l ≠ 0 → v = .slice none 0 0)
theorem of_long (l : List (List UInt8)) (w : World) (A : Option Addr) (c : Nat) (h : 10 < l.length) : Calls Tryd.prog 40 #[.slice A l.length c] w (OfPost l w) := by
  have HE := Aside0.mk (show sysE l = 3 by unfold sysE; rw [if_pos h])
  have hb : decide (10 < (l.length : Int)) = true := decide_eq_true (by omega)
  have hb' : decide (10 < l.length) = true := decide_eq_true (by omega)
  go_enter Tryd.func40, Tryd.ntmps40
  go_wp2_with fail
  go_ret2
  exact ⟨.slice none 0 0, (by rw [HE.out]; rfl), Below.refl _ _, fun h => (by rw [HE.out] at h; cases h), fun _ => rfl⟩
theorem of_nil (w : World) (A : Option Addr) (c : Nat) : Calls Tryd.prog 40 #[.slice A (([] : List (List UInt8)).length) c] w (OfPost [] w) := by
  have HE := Aside0.mk (show sysE [] = 2 from rfl)
  go_enter Tryd.func40, Tryd.ntmps40
  go_wp2_with fail
  go_ret2
  exact ⟨.slice none 0 0, (by rw [HE.out]; rfl), Below.refl _ _, fun h => (by rw [HE.out] at h; cases h), fun _ => rfl⟩
theorem rd_strL (l : List (List UInt8)) (k : Nat) (h : k < l.length) : rdOf ByteArray.empty (l.map strL) (k : Int) = strL (l.getD k []) := by
  simp [rdOf, h]
theorem firstE_drop {n : Nat} {l : List (List UInt8)} {k : Nat} (h : k < l.length) : firstE n (l.drop k) = if parseE n (l.getD k []) = 0 then firstE n (l.drop (k + 1)) else parseE n (l.getD k []) := by
  rw [List.drop_eq_getElem_cons h, firstE]
  simp [h]
def fmO (n : Nat) (s : List UInt8) : Fm := (parseO n s).getD (.con false)
theorem fmO_snoc {n : Nat} {l : List (List UInt8)} {k : Nat} (h : k < l.length) : (l.take (k + 1)).map (fmO n) = (l.take k).map (fmO n) ++ [fmO n (l.getD k [])] := by
  rw [List.take_succ_eq_append_getElem h, List.map_append]
  simp [h]
def OfGo (n : Nat) (l : List (List UInt8)) (w : World) (e : Ending) (w' : World) : Prop :=
  ∃ v, e = .returned (.tuple #[v, .int .i64 (firstE n l)]) ∧ Below w.heap.size w w' ∧ (firstE n l = 0 → Kd.R kF 92 w' w.heap.size (fun _ => True) v (l.map (fmO n))) ∧ (firstE n l ≠ 0 → v = .slice none 0 0)
set_option maxHeartbeats 1600000 in
set_option maxRecDepth 100000 in
theorem of_go (l : List (List UInt8)) (w : World) (A : Option Addr) (c n : Nat) (hn : l.length = n) (h1 : 0 < n) (h2 : n ≤ 10) (hr : Kd.C Kd.string w A n (l.map strL)) : Calls Tryd.prog 40 #[.slice A n c] w (OfGo n l w) := by
  have hb : decide (10 < (n : Int)) = false := decide_eq_false (by omega)
  have hb' : decide (10 < n) = false := decide_eq_false (by omega)
  have hz : ((n : Int) == 0) = false := beq_eq_false_iff_ne.2 (by omega)
  have n0 : (0 : Int) ≤ (n : Int) := by omega
  have HR := Aside0.mk hr
  have HN := Aside0.mk hn
  have HB0 := Aside0.mk (Below.refl w.heap.size w)
  clear hr hn
  go_enter Tryd.func40, Tryd.ntmps40
  go_wp2_with fail
  go_loopw [4, 19] (fun v v19 wr => ∃ k : Nat, k ≤ n ∧ v19 = .int .i64 (k : Int) ∧ Aside0 (firstE n l = firstE n (l.drop k)) ∧ Aside0 (Kd.R kF 92 wr w.heap.size (fun _ => True) v ((l.take k).map (fmO n))) ∧ Aside0 (Below w.heap.size w wr)) (fun _ v19 _ => n - (intOf v19).toNat)
  case atStart => exact ⟨0, by omega, rfl, ⟨rfl⟩, ⟨Kd.R_nil _ _ _ _ _⟩, HB0⟩
  case round =>
    clear HB0
    obtain ⟨k, hk, rfl, HE, HO, HB⟩ := hrel
    have k0 : (0 : Int) ≤ (k : Int) := by omega
    by_cases hkn : k < n
    · have hkn' : (k : Int) < (n : Int) := by omega
      have hkl : k < l.length := by have := HN.out; omega
      obtain ⟨ad, rfl, hcell⟩ := Kd.at_string (Kd.C_below HR.out HB.out) (k : Int) k0 hkn'
      rw [rd_strL l k hkl, Int.toNat_natCast] at hcell
      have HP := Aside0.mk (fun w1 => parse_any has_c n (l.getD k []) w1)
      have HE2 := Aside0.mk (HE.out.trans (firstE_drop hkl))
      have HS := Aside0.mk (fmO_snoc (n := n) hkl)
      have hlen : ((l.take k).map (fmO n)).length ≤ 10 := by rw [List.length_map, List.length_take]; omega
      have HL := Aside0.mk hlen
      have hfm : parseE n (l.getD k []) = 0 → parseV n (l.getD k []) = encF (fmO n (l.getD k [])) := fun h => by unfold parseV; rw [if_pos h]; rfl
      clear hkl hlen
      generalize l.getD k [] = s at *
      by_cases hp : parseE n s = 0
      · have he2 := HE2.out
        rw [if_pos hp] at he2
        have HP2 := HP.out
        rw [hp, hfm hp] at HP2
        obtain ⟨t, u, he, _, _⟩ := enc_open (fmO n s)
        rw [he] at HP2
        have HE3 := Aside0.mk he2
        have HF := Aside0.mk he
        have HP3 := Aside0.mk HP2
        clear he2 he HP2 HP hp hfm HE2 HE
        go_wp2_with (first | (go_at_call 77; refine (HP3.out _).mono ?_; rintro e w2 ⟨hb2, rfl⟩; have HB2 := Aside0.mk (below_then HB.out HB.out.size hb2); have HO2 := Aside0.mk (Kd.R_below HO.out hb2); clear hb2) | ((with_reducible refine gate_builtin (b := .append) (xs := #[.tmp 33, .tmp 35]) rfl ?_); at_builtin; refine Kd.R_append kF (w0 := w) w.heap.size rfl (.tmp 33) (.tmp 35) 54 92 .nilIface 16 rfl Tryd.underlying54 infoF rfl (by decide) (by omega) _ ((l.take k).map (fmO n)) (fmO n s) [.iface t u] (fun _ => True) (fun _ => False) rfl rfl ?aP (fun _ hk => hk.elim) ?aF ?aO ?aB ?aS ?aL ?_; (case aP => exact congrArg (fun x => [x]) HF.out.symm); (case aF => exact (fun _ _ => trivial)); (case aO => exact HO2.out); (case aB => exact HB2.out); (case aS => exact HB2.out.size); (case aL => have := HL.out; omega); intro v1 w3 ho hb _ _; rw [← HS.out] at ho; have HO3 := Aside0.mk ho; have HB3 := Aside0.mk hb; clear ho hb))
        go_roundw
        case rel => exact ⟨k + 1, by omega, by go_num, HE3, HO3, HB3⟩
        case measure => simp [intOf]; omega
      · have he2 := HE2.out
        rw [if_neg hp] at he2
        have hpb : (parseE n s != 0) = true := bne_iff_ne.2 hp
        have HE3 := Aside0.mk he2
        have HPN := Aside0.mk hp
        clear he2 hfm HE2 HE hp
        generalize parseE n s = x at *
        generalize parseV n s = y at *
        go_wp2_with (first | (go_at_call 77; refine (HP.out _).mono ?_; rintro e w2 ⟨hb2, rfl⟩; have HB2 := Aside0.mk (below_then HB.out HB.out.size hb2); clear hb2))
        go_ret2
        exact ⟨.slice none 0 0, (by rw [HE3.out]; rfl), HB2.out, fun h => absurd (HE3.out.symm.trans h) HPN.out, fun _ => rfl⟩
    · obtain rfl : n = k := by omega
      have HF := Aside0.mk (show firstE n l = 0 by rw [HE.out, List.drop_eq_nil_of_le (by have := HN.out; omega)]; rfl)
      have htk := HO.out
      rw [List.take_of_length_le (by have := HN.out; omega)] at htk
      have HO2 := Aside0.mk htk
      clear htk HE HO
      go_wp2_with fail
      go_ret2
      exact ⟨_, (by rw [HF.out]; rfl), HB.out, fun _ => HO2.out, fun h => absurd HF.out h⟩
theorem of_any (l : List (List UInt8)) (w : World) (A : Option Addr) (c : Nat) (hr : Kd.C Kd.string w A l.length (l.map strL)) : Calls Tryd.prog 40 #[.slice A l.length c] w (OfPost l w) := by
  by_cases h : 10 < l.length
  · exact of_long l w A c h
  · cases l with
    | nil => exact of_nil w A c
    | cons s t =>
      have e : sysE (s :: t) = firstE (s :: t).length (s :: t) := by unfold sysE; rw [if_neg h, if_neg (by simp)]
      refine (of_go (s :: t) w A c (s :: t).length rfl (by simp) (by omega) hr).mono fun e' w' ⟨v, h1, h2, h3, h4⟩ => ⟨v, ?_, h2, ?_, ?_⟩
      · rw [e]; exact h1
      · rw [e]; exact h3
      · rw [e]; exact h4
end Go.Proofs.YtijaefmaceolbaaDoor.Im

namespace Go.Proofs.YtijaefmaceolbaaDoor.Im
open Go.RowKit Go.Proofs.YtijaefmaceolbaaDoorW.PrintWords Go.Proofs.YtijaefmaceolbaaDoorW.PrintLast Go.Proofs.YtijaefmaceolbaaDoorW.PrintMore Go.Proofs.YtijaefmaceolbaaDoor.Tr
set_option linter.unusedVariables false
theorem dw_nil {p : UInt8 → Bool} : ∀ {l : List UInt8}, l.dropWhile p = [] ↔ l.all p = true
  | [] => by simp
  | a :: l => by
    by_cases h : p a = true
    · rw [List.dropWhile_cons_of_pos h, dw_nil, List.all_cons, h]; simp
    · rw [List.dropWhile_cons_of_neg h, List.all_cons]
      have : p a = false := by simpa using h
      rw [this]; simp
theorem dw_all {p : UInt8 → Bool} : ∀ {l : List UInt8}, (l.dropWhile p).all p = l.all p
  | [] => rfl
  | a :: l => by
    by_cases h : p a = true
    · rw [List.dropWhile_cons_of_pos h, dw_all, List.all_cons, h]; rfl
    · rw [List.dropWhile_cons_of_neg h]
theorem trim_nil (l cs : List UInt8) : Lib.trimS l cs = [] ↔ l.all (cs.contains ·) = true := by
  unfold Lib.trimS Lib.trimLeftS Lib.trimRightS
  rw [dw_nil, List.all_reverse, dw_all, List.all_reverse]
def valB (cs : List UInt8) (n : Nat) (s : ByteArray) : Bool := decide (s.size = n) && s.data.toList.all (cs.contains ·)
theorem trim_any (s : ByteArray) (w : World) (cs : ByteArray) (hs : s.size ≤ 9223372036854775807) (hcs : cs.size < 4294967281) (ha : cs.data.toList.all (fun b => decide (b.toNat < 128)) = true) :
    Calls Tryd.prog 87 #[.string s, .string cs] w fun e w' => e = .returned (.string ⟨(Lib.trimS s.data.toList cs.data.toList).toArray⟩) ∧ Below w.heap.size w w' :=
  Any.strings_Trim_laid Tryd.lays160 (by kernel_rfl) s cs w hs hcs (ascii_of_all ha)
def ValuedPost (r : Bool) (w : World) (e : Ending) (w' : World) : Prop := e = .returned (.bool r) ∧ Below w.heap.size w w'
set_option maxRecDepth 100000 in
theorem valued_any (cs s : ByteArray) (n c : Nat) (A : Option Addr) (w : World) (hs : s.size ≤ 9223372036854775807) (hcs : cs.size < 4294967281) (ha : cs.data.toList.all (fun b => decide (b.toNat < 128)) = true) (hn : n ≤ 10) :
    Calls Tryd.prog 60 #[.slice A n c, .string s, .string cs] w (ValuedPost (valB cs.data.toList n s) w) := by
  have HT := Aside0.mk (fun w1 => trim_any s w1 cs hs hcs ha)
  clear ha hcs
  by_cases hl : s.size = n
  · have hl1 : ((s.size : Int) == (n : Int)) = true := beq_iff_eq.2 (by omega)
    have hl2 : (s.size == n) = true := beq_iff_eq.2 (by omega)
    have hv : valB cs.data.toList n s = (⟨(Lib.trimS s.data.toList cs.data.toList).toArray⟩ : ByteArray).toList.isEmpty := by
      unfold valB
      rw [ByteArray.toList_mk, decide_eq_true hl, Bool.true_and, Bool.eq_iff_iff, List.isEmpty_iff, trim_nil]
    rw [hv]
    have HL := Aside0.mk hl
    clear hl hv
    generalize (⟨(Lib.trimS s.data.toList cs.data.toList).toArray⟩ : ByteArray) = r at *
    go_enter Tryd.func60, Tryd.ntmps60
    go_wp2_with (first | (go_at_call 87; refine (HT.out _).mono ?_; rintro e w2 ⟨rfl, hb2⟩; have HB := Aside0.mk hb2; clear hb2))
    go_ret
    exact ⟨rfl, HB.out⟩
  · have hl1 : ((s.size : Int) == (n : Int)) = false := beq_eq_false_iff_ne.2 (by omega)
    have hl2 : (s.size == n) = false := beq_eq_false_iff_ne.2 (by omega)
    have HV := Aside0.mk (show valB cs.data.toList n s = false by unfold valB; rw [decide_eq_false hl]; rfl)
    clear HT hl
    go_enter Tryd.func60, Tryd.ntmps60
    go_wp2_with fail
    go_ret
    exact ⟨by rw [HV.out]; rfl, Below.refl _ _⟩
def byteT (c : UInt8) : T3 := if c = 48 then some false else if c = 49 then some true else none
theorem byteT_byte3 : ∀ c : T3, byteT (byte3 c) = c
  | none => rfl
  | some false => rfl
  | some true => rfl
theorem byte3_byteT {c : UInt8} (h : c = 48 ∨ c = 49 ∨ c = 63) : byte3 (byteT c) = c := by
  rcases h with h | h | h <;> subst h <;> rfl
def vsOf (s : ByteArray) : List T3 := s.data.toList.map byteT
theorem vsOf_strV (v : List T3) : vsOf (strV v) = v := by
  simp only [vsOf, strV, List.map_map]
  exact (List.map_congr_left fun c _ => byteT_byte3 c).trans (List.map_id _)
theorem strV_vsOf {s : ByteArray} (h : ∀ c ∈ s.data.toList, c = 48 ∨ c = 49 ∨ c = 63) : strV (vsOf s) = s := by
  have e : (vsOf s).map byte3 = s.data.toList := by
    rw [vsOf, List.map_map]
    exact (List.map_congr_left fun c hc => byte3_byteT (h c hc)).trans (List.map_id _)
  unfold strV
  rw [e]
theorem strV_inj {v u : List T3} (h : strV v = strV u) : v = u := by rw [← vsOf_strV v, h, vsOf_strV]
theorem valB2 {n : Nat} {s : ByteArray} (h : valB [48, 49] n s = true) : ∃ v : List T3, v.length = n ∧ totV v ∧ s = strV v := by
  unfold valB at h
  rw [Bool.and_eq_true, decide_eq_true_eq, List.all_eq_true] at h
  have h2 : ∀ c ∈ s.data.toList, c = 48 ∨ c = 49 := fun c hc => by have := h.2 c hc; simpa using this
  refine ⟨vsOf s, ?_, ?_, (strV_vsOf fun c hc => ?_).symm⟩
  · rw [vsOf, List.length_map, Array.length_toList]; exact h.1
  · intro x hx
    obtain ⟨c, hc, rfl⟩ := List.mem_map.1 hx
    rcases h2 c hc with h | h <;> subst h <;> simp [byteT]
  · rcases h2 c hc with h | h
    · exact Or.inl h
    · exact Or.inr (Or.inl h)
end Go.Proofs.YtijaefmaceolbaaDoor.Im

namespace Go.Proofs.YtijaefmaceolbaaDoor.Im
open Go.RowKit Go.Proofs.YtijaefmaceolbaaDoorW.PrintWords Go.Proofs.YtijaefmaceolbaaDoorW.PrintLast Go.Proofs.YtijaefmaceolbaaDoorW.PrintMore Go.Proofs.YtijaefmaceolbaaDoor.Tr
set_option linter.unusedVariables false
set_option linter.unusedSimpArgs false
def OutS (r : ByteArray × Int) (w : World) (e : Ending) (w' : World) : Prop := e = .returned (.tuple #[.string r.1, .int .i64 r.2]) ∧ Below w.heap.size w w'
def str0 : ByteArray := ⟨#[]⟩
theorem of_cases {l : List (List UInt8)} {w w' : World} {e : Ending} (h : OfPost l w e w') :
    Below w.heap.size w w' ∧ ((sysE l ≠ 0 ∧ e = .returned (.tuple #[.slice none 0 0, .int .i64 (sysE l)])) ∨
      (sysE l = 0 ∧ ∃ A c, l.length ≤ c ∧ e = .returned (.tuple #[.slice A l.length c, .int .i64 0]) ∧ Kd.C kF w' A l.length (sysF l))) := by
  obtain ⟨v, rfl, hb, h1, h2⟩ := h
  refine ⟨hb, ?_⟩
  by_cases h0 : sysE l = 0
  · obtain ⟨A, c, rfl, hc, hC⟩ := Kd.R_reads (h1 h0)
    rw [sysF_len] at hc hC
    exact .inr ⟨h0, A, c, hc, by rw [h0, sysF_len], hC⟩
  · exact .inl ⟨h0, by rw [h2 h0]⟩
theorem of_bad {l : List (List UInt8)} (h : sysE l ≠ 0) (w : World) (A : Option Addr) (c : Nat) (hr : Kd.C Kd.string w A l.length (l.map strL)) :
    Calls Tryd.prog 40 #[.slice A l.length c] w fun e w' => e = .returned (.tuple #[.slice none 0 0, .int .i64 (sysE l)]) ∧ Below w.heap.size w w' :=
  (of_any l w A c hr).mono fun e w' hp => by
    obtain ⟨hb, ⟨_, he⟩ | ⟨h0, _⟩⟩ := of_cases hp
    · exact ⟨he, hb⟩
    · exact absurd h0 h
def OfGood (n : Nat) (fs : List Fm) (w : World) (e : Ending) (w' : World) : Prop :=
  ∃ A c, n ≤ c ∧ e = .returned (.tuple #[.slice A n c, .int .i64 0]) ∧ Kd.C kF w' A n fs ∧ Below w.heap.size w w'
theorem of_good {l : List (List UInt8)} (h : sysE l = 0) (w : World) (A : Option Addr) (c : Nat) (hr : Kd.C Kd.string w A l.length (l.map strL)) :
    Calls Tryd.prog 40 #[.slice A l.length c] w (OfGood l.length (sysF l) w) :=
  (of_any l w A c hr).mono fun e w' hp => by
    obtain ⟨hb, ⟨h0, _⟩ | ⟨h0, A, c, hc, he, hC⟩⟩ := of_cases hp
    · exact absurd h h0
    · exact ⟨A, c, hc, he, hC, hb⟩
def leastO (l : List (List UInt8)) : ByteArray × Int := if sysE l = 0 then (strV (leastV (sysF l)), 0) else (str0, sysE l)
theorem repeat_any (n : Nat) (hn : n ≤ 10) (w : World) : Calls Tryd.prog 68 #[.string ⟨#[63]⟩, .int .i64 (n : Int)] w fun e w' => e = .returned (.string (strV (noneV n))) ∧ Below w.heap.size w w' :=
  (Any.strings_Repeat Tryd.lays105 Tryd.Builder_Extra_105 ⟨#[63]⟩ n w (by omega) (by show 1 * n ≤ _; omega)).mono fun e w' ⟨h1, h2⟩ => ⟨by
    rw [h1]
    have e1 : ∀ n, Lib.repeatL (⟨#[63]⟩ : ByteArray).data.toList n = List.replicate n 63 := fun n => by
      induction n with
      | zero => rfl
      | succ n ih => rw [Lib.repeatL, ih, List.replicate_succ]; rfl
    rw [e1]
    unfold strV noneV
    rw [List.map_replicate]
    rfl, h2⟩
set_option maxHeartbeats 800000 in
set_option maxRecDepth 100000 in
theorem least_call (l : List (List UInt8)) (w : World) (A : Option Addr) (c : Nat) (hr : Kd.C Kd.string w A l.length (l.map strL)) :
    Calls Tryd.prog 28 #[.slice A l.length c] w (OutS (leastO l) w) := by
  by_cases h0 : sysE l = 0
  · have S := sys_ok h0
    have HO := Aside0.mk (of_good h0 w A c hr)
    have HR := Aside0.mk (show leastO l = (strV (leastV (sysF l)), 0) by unfold leastO; rw [if_pos h0])
    obtain ⟨n, hn⟩ : ∃ n, l.length = n := ⟨_, rfl⟩
    rw [hn] at HO S ⊢
    have HRep := Aside0.mk (fun w1 => repeat_any n S.n10 w1)
    have HN := Aside0.mk (fun (i : Nat) (w1 : World) (A : Option Addr) (c : Nat) => next_any S (v := iterV (sysF l) i (noneV n)) (by rw [iterV_len (by rw [S.len]; simp [noneV])]; exact S.len) w1 A c)
    have HL := Aside0.mk (show leastV (sysF l) = iterV (sysF l) n (noneV n) by unfold leastV; rw [S.len])
    have n0 : (0 : Int) ≤ (n : Int) := by omega
    have n10 : n ≤ 10 := S.n10
    clear hr S h0 hn
    go_enter Tryd.func28, Tryd.ntmps28
    go_wp2_with (first | (go_at_call 40; refine HO.out.mono ?_; rintro e w1 ⟨A1, c1, hc1, rfl, hC, hb⟩; have HC := Aside0.mk hC; have HB := Aside0.mk hb; have HCC := Aside0.mk hc1; clear hC hb hc1) | (go_at_call 68; refine (HRep.out _).mono ?_; rintro e w2 ⟨rfl, hb2⟩; have HC2 := Aside0.mk (Kd.C_below HC.out hb2); have HB2 := Aside0.mk (below_then HB.out HB.out.size hb2); clear hb2))
    clear HC HB
    go_loopw [6, 20] (fun v v20 wr => ∃ k : Nat, k ≤ n ∧ v20 = .int .i64 (k : Int) ∧ v = .string (strV (iterV (sysF l) k (noneV n))) ∧ Aside0 (Kd.C kF wr A1 n (sysF l)) ∧ Aside0 (Below w.heap.size w wr)) (fun _ v20 _ => n - (intOf v20).toNat)
    case atStart => exact ⟨0, by omega, rfl, rfl, HC2, HB2⟩
    case round =>
      clear HB2 HC2
      obtain ⟨k, hk, rfl, rfl, HC, HB⟩ := hrel
      by_cases hkn : k < n
      · have hkn' : (k : Int) < (n : Int) := by omega
        have HNk := Aside0.mk (HN.out k)
        go_wp2_with (first | (go_at_call 61; refine (HNk.out _ _ _ HC.out HCC.out).mono ?_; rintro e w3 ⟨rfl, hb3⟩; have HC3 := Aside0.mk (Kd.C_below HC.out hb3); have HB3 := Aside0.mk (below_then HB.out HB.out.size hb3); clear hb3))
        go_roundw
        case rel => exact ⟨k + 1, by omega, by go_num, rfl, HC3, HB3⟩
        case measure => simp [intOf]; omega
      · obtain rfl : n = k := by omega
        go_wp2_with fail
        go_ret2
        exact ⟨by rw [HR.out, HL.out]; rfl, HB.out⟩
  · have HR := Aside0.mk (show leastO l = (str0, sysE l) by unfold leastO; rw [if_neg h0])
    have HO := Aside0.mk (of_bad h0 w A c hr)
    have hne : (sysE l != 0) = true := bne_iff_ne.2 h0
    clear h0 hr
    generalize sysE l = x at *
    go_enter Tryd.func28, Tryd.ntmps28
    go_wp2_with (first | (go_at_call 40; refine HO.out.mono ?_; rintro e w1 ⟨rfl, hb⟩; have HB := Aside0.mk hb; clear hb))
    go_ret2
    exact ⟨by rw [HR.out]; rfl, HB.out⟩
end Go.Proofs.YtijaefmaceolbaaDoor.Im

