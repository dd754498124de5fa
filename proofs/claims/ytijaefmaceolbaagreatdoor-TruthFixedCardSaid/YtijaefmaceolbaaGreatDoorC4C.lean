/- Further parts of the same walk: contracts of the functions that the law reaches, each under the conditions that it states. -/
import Derived.Test.YtijaefmaceolbaaGreatDoorC4B
import Derived.Shelf.Strings.Search3
import Derived.Shelf.Strings.SlTrimAscii
import Derived.Shelf.Strings.Builder1
import Derived.Shelf.Strings.Builder2
import Derived.Shelf.Strings.Repeat
import Derived.Shelf.Strings.Count
namespace Go.Proofs
open Go.Shelf
def Tryz.lays144_ren : Go.Shelf.Ren := ⟨fun | 144 => 94 | 143 => 92 | 219 => 101 | 217 => 105 | 225 => 106 | 224 => 107 | 267 => 108 | 266 => 111 | 314 => 112 | n => n, fun | 9 => 9 | 4 => 4 | 3 => 3 | 5 => 5 | 46 => 83 | 146 => 117 | 51 => 116 | n => n, fun | 1 => 0 | n => n⟩
theorem Tryz.lays144 : Go.Proofs.Lays.n144 Tryz.prog Tryz.lays144_ren := {
  mixed := by kernel_rfl
  f143 := Tryz.func92.trans (congrArg some (by kernel_rfl))
  f144 := Tryz.func94.trans (congrArg some (by kernel_rfl))
  f217 := Tryz.func105.trans (congrArg some (by kernel_rfl))
  f219 := Tryz.func101.trans (congrArg some (by kernel_rfl))
  f224 := Tryz.func107.trans (congrArg some (by kernel_rfl))
  f225 := Tryz.func106.trans (congrArg some (by kernel_rfl))
  f266 := Tryz.func111.trans (congrArg some (by kernel_rfl))
  f267 := Tryz.func108.trans (congrArg some (by kernel_rfl))
  f314 := Tryz.func112.trans (congrArg some (by kernel_rfl))
  t3 := Tryz.underlying3
  a3 := Tryz.isAgg3
  z3 := Tryz.sizeOf3
  v3 := Tryz.zeroValue3
  t4 := Tryz.underlying4
  a4 := Tryz.isAgg4
  z4 := Tryz.sizeOf4
  v4 := Tryz.zeroValue4
  t5 := Tryz.underlying5
  a5 := Tryz.isAgg5
  z5 := Tryz.sizeOf5
  v5 := Tryz.zeroValue5
  t9 := Tryz.underlying9
  a9 := Tryz.isAgg9
  z9 := Tryz.sizeOf9
  v9 := Tryz.zeroValue9
  t46 := Tryz.underlying83
  a46 := Tryz.isAgg83
  z46 := Tryz.sizeOf83
  v46 := Tryz.zeroValue83
  t51 := Tryz.underlying116
  a51 := Tryz.isAgg116
  z51 := Tryz.sizeOf116
  v51 := Tryz.zeroValue116
  t146 := Tryz.underlying117
  a146 := Tryz.isAgg117
  z146 := Tryz.sizeOf117
  v146 := Tryz.zeroValue117
  g1 := by kernel_rfl }
def Tryz.lays160_ren : Go.Shelf.Ren := ⟨fun | 160 => 63 | 232 => 83 | 231 => 82 | 227 => 84 | 234 => 86 | 233 => 85 | 236 => 88 | 235 => 87 | 228 => 97 | 271 => 100 | 151 => 99 | 197 => 98 | 120 => 104 | 152 => 103 | 260 => 102 | 137 => 109 | 119 => 110 | 224 => 107 | 225 => 106 | 217 => 105 | 266 => 111 | n => n, fun | 9 => 9 | 4 => 4 | 3 => 3 | 5 => 5 | 117 => 130 | 116 => 129 | 0 => 0 | 124 => 133 | 21 => 21 | 105 => 146 | 46 => 83 | 119 => 151 | 139 => 154 | 138 => 153 | n => n, fun | 3 => 1 | 4 => 2 | n => n⟩
theorem Tryz.lays160 : Go.Proofs.Lays.n160 Tryz.prog Tryz.lays160_ren := {
  mixed := by kernel_rfl
  f119 := Tryz.func110.trans (congrArg some (by kernel_rfl))
  f120 := Tryz.func104.trans (congrArg some (by kernel_rfl))
  f137 := Tryz.func109.trans (congrArg some (by kernel_rfl))
  f151 := Tryz.func99.trans (congrArg some (by kernel_rfl))
  f152 := Tryz.func103.trans (congrArg some (by kernel_rfl))
  f160 := Tryz.func63.trans (congrArg some (by kernel_rfl))
  f197 := Tryz.func98.trans (congrArg some (by kernel_rfl))
  f217 := Tryz.func105.trans (congrArg some (by kernel_rfl))
  f224 := Tryz.func107.trans (congrArg some (by kernel_rfl))
  f225 := Tryz.func106.trans (congrArg some (by kernel_rfl))
  f227 := Tryz.func84.trans (congrArg some (by kernel_rfl))
  f228 := Tryz.func97.trans (congrArg some (by kernel_rfl))
  f231 := Tryz.func82.trans (congrArg some (by kernel_rfl))
  f232 := Tryz.func83.trans (congrArg some (by kernel_rfl))
  f233 := Tryz.func85.trans (congrArg some (by kernel_rfl))
  f234 := Tryz.func86.trans (congrArg some (by kernel_rfl))
  f235 := Tryz.func87.trans (congrArg some (by kernel_rfl))
  f236 := Tryz.func88.trans (congrArg some (by kernel_rfl))
  f260 := Tryz.func102.trans (congrArg some (by kernel_rfl))
  f266 := Tryz.func111.trans (congrArg some (by kernel_rfl))
  f271 := Tryz.func100.trans (congrArg some (by kernel_rfl))
  t0 := Tryz.underlying0
  a0 := Tryz.isAgg0
  z0 := Tryz.sizeOf0
  v0 := Tryz.zeroValue0
  t3 := Tryz.underlying3
  a3 := Tryz.isAgg3
  z3 := Tryz.sizeOf3
  v3 := Tryz.zeroValue3
  t4 := Tryz.underlying4
  a4 := Tryz.isAgg4
  z4 := Tryz.sizeOf4
  v4 := Tryz.zeroValue4
  t5 := Tryz.underlying5
  a5 := Tryz.isAgg5
  z5 := Tryz.sizeOf5
  v5 := Tryz.zeroValue5
  t9 := Tryz.underlying9
  a9 := Tryz.isAgg9
  z9 := Tryz.sizeOf9
  v9 := Tryz.zeroValue9
  t21 := Tryz.underlying21
  a21 := Tryz.isAgg21
  z21 := Tryz.sizeOf21
  v21 := Tryz.zeroValue21
  t46 := Tryz.underlying83
  a46 := Tryz.isAgg83
  z46 := Tryz.sizeOf83
  v46 := Tryz.zeroValue83
  t105 := Tryz.underlying146
  a105 := Tryz.isAgg146
  z105 := Tryz.sizeOf146
  v105 := Tryz.zeroValue146
  t116 := Tryz.underlying129
  a116 := Tryz.isAgg129
  z116 := Tryz.sizeOf129
  t117 := Tryz.underlying130
  a117 := Tryz.isAgg130
  z117 := Tryz.sizeOf130
  v117 := Tryz.zeroValue130
  t119 := Tryz.underlying151
  a119 := Tryz.isAgg151
  z119 := Tryz.sizeOf151
  t124 := Tryz.underlying133
  a124 := Tryz.isAgg133
  z124 := Tryz.sizeOf133
  v124 := Tryz.zeroValue133
  t138 := Tryz.underlying153
  a138 := Tryz.isAgg153
  z138 := Tryz.sizeOf153
  v138 := Tryz.zeroValue153
  t139 := Tryz.underlying154
  a139 := Tryz.isAgg154
  z139 := Tryz.sizeOf154
  v139 := Tryz.zeroValue154
  g3 := by kernel_rfl
  g4 := by kernel_rfl }
def Tryz.lays105_ren : Go.Shelf.Ren := ⟨fun | 105 => 28 | 212 => 56 | 99 => 57 | 165 => 58 | 166 => 59 | 170 => 60 | 169 => 61 | 263 => 76 | 264 => 77 | 206 => 78 | 240 => 79 | 241 => 80 | 276 => 95 | 277 => 96 | n => n, fun | 9 => 9 | 3 => 3 | 4 => 4 | 20 => 20 | 0 => 0 | 46 => 83 | 109 => 84 | 5 => 5 | 72 => 89 | 76 => 93 | 51 => 116 | 146 => 117 | 53 => 119 | 148 => 120 | 70 => 86 | 37 => 87 | 75 => 92 | 127 => 122 | 164 => 142 | 80 => 96 | n => n, fun | n => n⟩
theorem Tryz.lays105 : Go.Proofs.Lays.n105 Tryz.prog Tryz.lays105_ren := {
  mixed := by kernel_rfl
  f99 := Tryz.func57.trans (congrArg some (by kernel_rfl))
  f105 := Tryz.func28.trans (congrArg some (by kernel_rfl))
  f165 := Tryz.func58.trans (congrArg some (by kernel_rfl))
  f166 := Tryz.func59.trans (congrArg some (by kernel_rfl))
  f169 := Tryz.func61.trans (congrArg some (by kernel_rfl))
  f170 := Tryz.func60.trans (congrArg some (by kernel_rfl))
  f206 := Tryz.func78.trans (congrArg some (by kernel_rfl))
  f212 := Tryz.func56.trans (congrArg some (by kernel_rfl))
  f240 := Tryz.func79.trans (congrArg some (by kernel_rfl))
  f241 := Tryz.func80.trans (congrArg some (by kernel_rfl))
  f263 := Tryz.func76.trans (congrArg some (by kernel_rfl))
  f264 := Tryz.func77.trans (congrArg some (by kernel_rfl))
  f276 := Tryz.func95.trans (congrArg some (by kernel_rfl))
  f277 := Tryz.func96.trans (congrArg some (by kernel_rfl))
  t0 := Tryz.underlying0
  a0 := Tryz.isAgg0
  z0 := Tryz.sizeOf0
  v0 := Tryz.zeroValue0
  t3 := Tryz.underlying3
  a3 := Tryz.isAgg3
  z3 := Tryz.sizeOf3
  v3 := Tryz.zeroValue3
  t4 := Tryz.underlying4
  a4 := Tryz.isAgg4
  z4 := Tryz.sizeOf4
  v4 := Tryz.zeroValue4
  t5 := Tryz.underlying5
  a5 := Tryz.isAgg5
  z5 := Tryz.sizeOf5
  v5 := Tryz.zeroValue5
  t9 := Tryz.underlying9
  a9 := Tryz.isAgg9
  z9 := Tryz.sizeOf9
  v9 := Tryz.zeroValue9
  t20 := Tryz.underlying20
  a20 := Tryz.isAgg20
  z20 := Tryz.sizeOf20
  v20 := Tryz.zeroValue20
  t37 := Tryz.underlying87
  a37 := Tryz.isAgg87
  z37 := Tryz.sizeOf87
  v37 := Tryz.zeroValue87
  t46 := Tryz.underlying83
  a46 := Tryz.isAgg83
  z46 := Tryz.sizeOf83
  v46 := Tryz.zeroValue83
  t51 := Tryz.underlying116
  a51 := Tryz.isAgg116
  z51 := Tryz.sizeOf116
  v51 := Tryz.zeroValue116
  t53 := Tryz.underlying119
  a53 := Tryz.isAgg119
  z53 := Tryz.sizeOf119
  v53 := Tryz.zeroValue119
  t70 := Tryz.underlying86
  a70 := Tryz.isAgg86
  z70 := Tryz.sizeOf86
  v70 := Tryz.zeroValue86
  t72 := Tryz.underlying89
  a72 := Tryz.isAgg89
  z72 := Tryz.sizeOf89
  v72 := Tryz.zeroValue89
  t75 := Tryz.underlying92
  a75 := Tryz.isAgg92
  z75 := Tryz.sizeOf92
  v75 := Tryz.zeroValue92
  t76 := Tryz.underlying93
  a76 := Tryz.isAgg93
  z76 := Tryz.sizeOf93
  v76 := Tryz.zeroValue93
  t109 := Tryz.underlying84
  a109 := Tryz.isAgg84
  z109 := Tryz.sizeOf84
  v109 := Tryz.zeroValue84
  t127 := Tryz.underlying122
  a127 := Tryz.isAgg122
  z127 := Tryz.sizeOf122
  v127 := Tryz.zeroValue122
  t146 := Tryz.underlying117
  a146 := Tryz.isAgg117
  z146 := Tryz.sizeOf117
  v146 := Tryz.zeroValue117
  t148 := Tryz.underlying120
  a148 := Tryz.isAgg120
  z148 := Tryz.sizeOf120
  v148 := Tryz.zeroValue120
  t164 := Tryz.underlying142
  a164 := Tryz.isAgg142
  z164 := Tryz.sizeOf142
  v164 := Tryz.zeroValue142 }
theorem Tryz.Builder_Extra_105 : Builder.Extra Tryz.prog Tryz.lays105_ren := {
  sizeBuilder := by kernel_rfl
  liesBuilder := by kernel_rfl
  t5 := Tryz.underlying5
  a5 := Tryz.isAgg5
  z5 := Tryz.sizeOf5
  v5 := Tryz.zeroValue5
  infoByte := by kernel_rfl
  cellsByte := by kernel_rfl
  sizeByte := by kernel_rfl
  neB5 := by decide }
def Tryz.lays138_ren : Go.Shelf.Ren := ⟨fun | 138 => 69 | 195 => 90 | 218 => 91 | 143 => 92 | 219 => 101 | 217 => 105 | 225 => 106 | 224 => 107 | 267 => 108 | 266 => 111 | 314 => 112 | n => n, fun | 9 => 9 | 3 => 3 | 4 => 4 | 5 => 5 | 0 => 0 | 46 => 83 | 146 => 117 | 51 => 116 | n => n, fun | 1 => 0 | n => n⟩
theorem Tryz.lays138 : Go.Proofs.Lays.n138 Tryz.prog Tryz.lays138_ren := {
  mixed := by kernel_rfl
  f138 := Tryz.func69.trans (congrArg some (by kernel_rfl))
  f143 := Tryz.func92.trans (congrArg some (by kernel_rfl))
  f195 := Tryz.func90.trans (congrArg some (by kernel_rfl))
  f217 := Tryz.func105.trans (congrArg some (by kernel_rfl))
  f218 := Tryz.func91.trans (congrArg some (by kernel_rfl))
  f219 := Tryz.func101.trans (congrArg some (by kernel_rfl))
  f224 := Tryz.func107.trans (congrArg some (by kernel_rfl))
  f225 := Tryz.func106.trans (congrArg some (by kernel_rfl))
  f266 := Tryz.func111.trans (congrArg some (by kernel_rfl))
  f267 := Tryz.func108.trans (congrArg some (by kernel_rfl))
  f314 := Tryz.func112.trans (congrArg some (by kernel_rfl))
  t0 := Tryz.underlying0
  a0 := Tryz.isAgg0
  z0 := Tryz.sizeOf0
  v0 := Tryz.zeroValue0
  t3 := Tryz.underlying3
  a3 := Tryz.isAgg3
  z3 := Tryz.sizeOf3
  v3 := Tryz.zeroValue3
  t4 := Tryz.underlying4
  a4 := Tryz.isAgg4
  z4 := Tryz.sizeOf4
  v4 := Tryz.zeroValue4
  t5 := Tryz.underlying5
  a5 := Tryz.isAgg5
  z5 := Tryz.sizeOf5
  v5 := Tryz.zeroValue5
  t9 := Tryz.underlying9
  a9 := Tryz.isAgg9
  z9 := Tryz.sizeOf9
  v9 := Tryz.zeroValue9
  t46 := Tryz.underlying83
  a46 := Tryz.isAgg83
  z46 := Tryz.sizeOf83
  v46 := Tryz.zeroValue83
  t51 := Tryz.underlying116
  a51 := Tryz.isAgg116
  z51 := Tryz.sizeOf116
  v51 := Tryz.zeroValue116
  t146 := Tryz.underlying117
  a146 := Tryz.isAgg117
  z146 := Tryz.sizeOf117
  v146 := Tryz.zeroValue117
  g1 := by kernel_rfl }
end Go.Proofs

namespace Go.Proofs.YtijaefmaceolbaaGreatDoor.Im
open Go.RowKit Go.Proofs.YtijaefmaceolbaaGreatDoorW.PrintWords Go.Proofs.YtijaefmaceolbaaGreatDoorW.PrintLast Go.Proofs.YtijaefmaceolbaaGreatDoorW.PrintMore Go.Proofs.YtijaefmaceolbaaGreatDoor.Tr
set_option linter.unusedVariables false
theorem has_op (o : UInt8) : decide (0 ≤ Lib.indexByte [38, 124, 61] o) = (opOf o).isSome := by
  unfold opOf
  by_cases h1 : o = 38
  · subst h1; decide
  by_cases h2 : o = 124
  · subst h2; decide
  by_cases h3 : o = 61
  · subst h3; decide
  rw [if_neg h1, if_neg h2, if_neg h3]
  have e1 : ¬ (38 : UInt8) = o := fun h => h1 h.symm
  have e2 : ¬ (124 : UInt8) = o := fun h => h2 h.symm
  have e3 : ¬ (61 : UInt8) = o := fun h => h3 h.symm
  simp [Lib.indexByte, e1, e2, e3]
theorem has_c : HasC := fun o w => (Any.strings_Contains_one Tryz.lays144 ⟨#[38, 124, 61]⟩ o w).mono fun e w' ⟨h1, h2⟩ => ⟨by rw [h2]; exact Below.refl _ _, by rw [h1]; exact congrArg (fun b => Ending.returned (.bool b)) (has_op o)⟩
end Go.Proofs.YtijaefmaceolbaaGreatDoor.Im

namespace Go.Proofs.YtijaefmaceolbaaGreatDoor.Im
open Go.RowKit Go.Proofs.YtijaefmaceolbaaGreatDoorW.PrintWords Go.Proofs.YtijaefmaceolbaaGreatDoorW.PrintLast Go.Proofs.YtijaefmaceolbaaGreatDoorW.PrintMore Go.Proofs.YtijaefmaceolbaaGreatDoor.Tr
attribute [local go_sem] max2_int min2_int max_two min_two max_three min_three max_four min_four
set_option linter.unusedVariables false
set_option linter.unusedSimpArgs false
theorem infoF : (Tryz.prog.info? 80).map (fun i => (i.zero, i.size, i.bytes)) = some (some .nilIface, 1, 16) := by kernel_rfl
def OfPost (l : List (List UInt8)) (w : World) (e : Ending) (w' : World) : Prop :=
  ∃ v, e = .returned (.tuple #[v, .int .i64 (sysE l)]) ∧ Below w.heap.size w w' ∧ (sysE l = 0 → Kd.R kF 80 w' w.heap.size (fun _ => True) v (sysF l)) ∧ (sysE l ≠ 0 → v = .slice none 0 0)
theorem of_long (l : List (List UInt8)) (w : World) (A : Option Addr) (c : Nat) (h : 10 < l.length) : Calls Tryz.prog 27 #[.slice A l.length c] w (OfPost l w) := by
  have HE := Aside0.mk (show sysE l = 3 by unfold sysE; rw [if_pos h])
  have hb : decide (10 < (l.length : Int)) = true := decide_eq_true (by omega)
  have hb' : decide (10 < l.length) = true := decide_eq_true (by omega)
  go_enter Tryz.func27, Tryz.ntmps27
  go_wp2_with fail
  go_ret2
  exact ⟨.slice none 0 0, (by rw [HE.out]; rfl), Below.refl _ _, fun h => (by rw [HE.out] at h; cases h), fun _ => rfl⟩
theorem of_nil (w : World) (A : Option Addr) (c : Nat) : Calls Tryz.prog 27 #[.slice A (([] : List (List UInt8)).length) c] w (OfPost [] w) := by
  have HE := Aside0.mk (show sysE [] = 2 from rfl)
  go_enter Tryz.func27, Tryz.ntmps27
  go_wp2_with fail
  go_ret2
  exact ⟨.slice none 0 0, (by rw [HE.out]; rfl), Below.refl _ _, fun h => (by rw [HE.out] at h; cases h), fun _ => rfl⟩
theorem rd_strL (l : List (List UInt8)) (k : Nat) (h : k < l.length) : rdOf ByteArray.empty (l.map strL) (k : Int) = strL (l.getD k []) := by
  simp [rdOf, h]
theorem firstE_drop {n : Nat} {l : List (List UInt8)} {k : Nat} (h : k < l.length) : firstE n (l.drop k) = if parseE n (l.getD k []) = 0 then firstE n (l.drop (k + 1)) else parseE n (l.getD k []) := by
  rw [List.drop_eq_getElem_cons h, firstE]
  simp [h]
def fmO (n : Nat) (s : List UInt8) : Fm := (parseO n s).getD (.con false)
theorem fmO_snoc {n : Nat} {l : List (List UInt8)} {k : Nat} (h : k < l.length) : (l.take (k + 1)).map (fmO n) = (l.take k).map (fmO n) ++ [fmO n (l.getD k [])] := by
  rw [List.take_succ_eq_append_getElem h, List.map_append]
  simp [h]
def OfGo (n : Nat) (l : List (List UInt8)) (w : World) (e : Ending) (w' : World) : Prop :=
  ∃ v, e = .returned (.tuple #[v, .int .i64 (firstE n l)]) ∧ Below w.heap.size w w' ∧ (firstE n l = 0 → Kd.R kF 80 w' w.heap.size (fun _ => True) v (l.map (fmO n))) ∧ (firstE n l ≠ 0 → v = .slice none 0 0)
set_option maxHeartbeats 1600000 in
set_option maxRecDepth 100000 in
theorem of_go (l : List (List UInt8)) (w : World) (A : Option Addr) (c n : Nat) (hn : l.length = n) (h1 : 0 < n) (h2 : n ≤ 10) (hr : Kd.C Kd.string w A n (l.map strL)) : Calls Tryz.prog 27 #[.slice A n c] w (OfGo n l w) := by
  have hb : decide (10 < (n : Int)) = false := decide_eq_false (by omega)
  have hb' : decide (10 < n) = false := decide_eq_false (by omega)
  have hz : ((n : Int) == 0) = false := beq_eq_false_iff_ne.2 (by omega)
  have n0 : (0 : Int) ≤ (n : Int) := by omega
  have HR := Aside0.mk hr
  have HN := Aside0.mk hn
  have HB0 := Aside0.mk (Below.refl w.heap.size w)
  clear hr hn
  go_enter Tryz.func27, Tryz.ntmps27
  go_wp2_with fail
  go_loopw [4, 19] (fun v v19 wr => ∃ k : Nat, k ≤ n ∧ v19 = .int .i64 (k : Int) ∧ Aside0 (firstE n l = firstE n (l.drop k)) ∧ Aside0 (Kd.R kF 80 wr w.heap.size (fun _ => True) v ((l.take k).map (fmO n))) ∧ Aside0 (Below w.heap.size w wr)) (fun _ v19 _ => n - (intOf v19).toNat)
  case atStart => exact ⟨0, by omega, rfl, ⟨rfl⟩, ⟨Kd.R_nil _ _ _ _ _⟩, HB0⟩
  case round =>
    clear HB0
    obtain ⟨k, hk, rfl, HE, HO, HB⟩ := hrel
    have k0 : (0 : Int) ≤ (k : Int) := by omega
    by_cases hkn : k < n
    · have hkn' : (k : Int) < (n : Int) := by omega
      have hkl : k < l.length := by have := HN.out; omega
      obtain ⟨ad, rfl, hcell⟩ := Kd.at_string (Kd.C_below HR.out HB.out) (k : Int) k0 hkn'
      rw [rd_strL l k hkl, Int.toNat_natCast] at hcell
      have HP := Aside0.mk (fun w1 => parse_any has_c n (l.getD k []) w1)
      have HE2 := Aside0.mk (HE.out.trans (firstE_drop hkl))
      have HS := Aside0.mk (fmO_snoc (n := n) hkl)
      have hlen : ((l.take k).map (fmO n)).length ≤ 10 := by rw [List.length_map, List.length_take]; omega
      have HL := Aside0.mk hlen
      have hfm : parseE n (l.getD k []) = 0 → parseV n (l.getD k []) = encF (fmO n (l.getD k [])) := fun h => by unfold parseV; rw [if_pos h]; rfl
      clear hkl hlen
      generalize l.getD k [] = s at *
      by_cases hp : parseE n s = 0
      · have he2 := HE2.out
        rw [if_pos hp] at he2
        have HP2 := HP.out
        rw [hp, hfm hp] at HP2
        obtain ⟨t, u, he, _, _⟩ := enc_open (fmO n s)
        rw [he] at HP2
        have HE3 := Aside0.mk he2
        have HF := Aside0.mk he
        have HP3 := Aside0.mk HP2
        clear he2 he HP2 HP hp hfm HE2 HE
        go_wp2_with (first | (go_at_call 55; refine (HP3.out _).mono ?_; rintro e w2 ⟨hb2, rfl⟩; have HB2 := Aside0.mk (below_then HB.out HB.out.size hb2); have HO2 := Aside0.mk (Kd.R_below HO.out hb2); clear hb2) | ((with_reducible refine gate_builtin (b := .append) (xs := #[.tmp 33, .tmp 35]) rfl ?_); at_builtin; refine Kd.R_append kF (w0 := w) w.heap.size rfl (.tmp 33) (.tmp 35) 47 80 .nilIface 16 rfl Tryz.underlying47 infoF rfl (by decide) (by omega) _ ((l.take k).map (fmO n)) (fmO n s) [.iface t u] (fun _ => True) (fun _ => False) rfl rfl ?aP (fun _ hk => hk.elim) ?aF ?aO ?aB ?aS ?aL ?_; (case aP => exact congrArg (fun x => [x]) HF.out.symm); (case aF => exact (fun _ _ => trivial)); (case aO => exact HO2.out); (case aB => exact HB2.out); (case aS => exact HB2.out.size); (case aL => have := HL.out; omega); intro v1 w3 ho hb _ _; rw [← HS.out] at ho; have HO3 := Aside0.mk ho; have HB3 := Aside0.mk hb; clear ho hb))
        go_roundw
        case rel => exact ⟨k + 1, by omega, by go_num, HE3, HO3, HB3⟩
        case measure => simp [intOf]; omega
      · have he2 := HE2.out
        rw [if_neg hp] at he2
        have hpb : (parseE n s != 0) = true := bne_iff_ne.2 hp
        have HE3 := Aside0.mk he2
        have HPN := Aside0.mk hp
        clear he2 hfm HE2 HE hp
        generalize parseE n s = x at *
        generalize parseV n s = y at *
        go_wp2_with (first | (go_at_call 55; refine (HP.out _).mono ?_; rintro e w2 ⟨hb2, rfl⟩; have HB2 := Aside0.mk (below_then HB.out HB.out.size hb2); clear hb2))
        go_ret2
        exact ⟨.slice none 0 0, (by rw [HE3.out]; rfl), HB2.out, fun h => absurd (HE3.out.symm.trans h) HPN.out, fun _ => rfl⟩
    · obtain rfl : n = k := by omega
      have HF := Aside0.mk (show firstE n l = 0 by rw [HE.out, List.drop_eq_nil_of_le (by have := HN.out; omega)]; rfl)
      have htk := HO.out
      rw [List.take_of_length_le (by have := HN.out; omega)] at htk
      have HO2 := Aside0.mk htk
      clear htk HE HO
      go_wp2_with fail
      go_ret2
      exact ⟨_, (by rw [HF.out]; rfl), HB.out, fun _ => HO2.out, fun h => absurd HF.out h⟩
theorem of_any (l : List (List UInt8)) (w : World) (A : Option Addr) (c : Nat) (hr : Kd.C Kd.string w A l.length (l.map strL)) : Calls Tryz.prog 27 #[.slice A l.length c] w (OfPost l w) := by
  by_cases h : 10 < l.length
  · exact of_long l w A c h
  · cases l with
    | nil => exact of_nil w A c
    | cons s t =>
      have e : sysE (s :: t) = firstE (s :: t).length (s :: t) := by unfold sysE; rw [if_neg h, if_neg (by simp)]
      refine (of_go (s :: t) w A c (s :: t).length rfl (by simp) (by omega) hr).mono fun e' w' ⟨v, h1, h2, h3, h4⟩ => ⟨v, ?_, h2, ?_, ?_⟩
      · rw [e]; exact h1
      · rw [e]; exact h3
      · rw [e]; exact h4
end Go.Proofs.YtijaefmaceolbaaGreatDoor.Im

namespace Go.Proofs.YtijaefmaceolbaaGreatDoor.Im
open Go.RowKit Go.Proofs.YtijaefmaceolbaaGreatDoorW.PrintWords Go.Proofs.YtijaefmaceolbaaGreatDoorW.PrintLast Go.Proofs.YtijaefmaceolbaaGreatDoorW.PrintMore Go.Proofs.YtijaefmaceolbaaGreatDoor.Tr
set_option linter.unusedVariables false
theorem dw_nil {p : UInt8 → Bool} : ∀ {l : List UInt8}, l.dropWhile p = [] ↔ l.all p = true
  | [] => by simp
  | a :: l => by
    by_cases h : p a = true
    · rw [List.dropWhile_cons_of_pos h, dw_nil, List.all_cons, h]; simp
    · rw [List.dropWhile_cons_of_neg h, List.all_cons]
      have : p a = false := by simpa using h
      rw [this]; simp
theorem dw_all {p : UInt8 → Bool} : ∀ {l : List UInt8}, (l.dropWhile p).all p = l.all p
  | [] => rfl
  | a :: l => by
    by_cases h : p a = true
    · rw [List.dropWhile_cons_of_pos h, dw_all, List.all_cons, h]; rfl
    · rw [List.dropWhile_cons_of_neg h]
theorem trim_nil (l cs : List UInt8) : Lib.trimS l cs = [] ↔ l.all (cs.contains ·) = true := by
  unfold Lib.trimS Lib.trimLeftS Lib.trimRightS
  rw [dw_nil, List.all_reverse, dw_all, List.all_reverse]
def valB (cs : List UInt8) (n : Nat) (s : ByteArray) : Bool := decide (s.size = n) && s.data.toList.all (cs.contains ·)
theorem trim_any (s : ByteArray) (w : World) (cs : ByteArray) (hs : s.size ≤ 9223372036854775807) (hcs : cs.size < 4294967281) (ha : cs.data.toList.all (fun b => decide (b.toNat < 128)) = true) :
    Calls Tryz.prog 63 #[.string s, .string cs] w fun e w' => e = .returned (.string ⟨(Lib.trimS s.data.toList cs.data.toList).toArray⟩) ∧ Below w.heap.size w w' :=
  Any.strings_Trim_laid Tryz.lays160 (by kernel_rfl) s cs w hs hcs (ascii_of_all ha)
def ValuedPost (r : Bool) (w : World) (e : Ending) (w' : World) : Prop := e = .returned (.bool r) ∧ Below w.heap.size w w'
set_option maxRecDepth 100000 in
theorem valued_any (cs s : ByteArray) (n c : Nat) (A : Option Addr) (w : World) (hs : s.size ≤ 9223372036854775807) (hcs : cs.size < 4294967281) (ha : cs.data.toList.all (fun b => decide (b.toNat < 128)) = true) (hn : n ≤ 10) :
    Calls Tryz.prog 31 #[.slice A n c, .string s, .string cs] w (ValuedPost (valB cs.data.toList n s) w) := by
  have HT := Aside0.mk (fun w1 => trim_any s w1 cs hs hcs ha)
  clear ha hcs
  by_cases hl : s.size = n
  · have hl1 : ((s.size : Int) == (n : Int)) = true := beq_iff_eq.2 (by omega)
    have hl2 : (s.size == n) = true := beq_iff_eq.2 (by omega)
    have hv : valB cs.data.toList n s = (⟨(Lib.trimS s.data.toList cs.data.toList).toArray⟩ : ByteArray).toList.isEmpty := by
      unfold valB
      rw [ByteArray.toList_mk, decide_eq_true hl, Bool.true_and, Bool.eq_iff_iff, List.isEmpty_iff, trim_nil]
    rw [hv]
    have HL := Aside0.mk hl
    clear hl hv
    generalize (⟨(Lib.trimS s.data.toList cs.data.toList).toArray⟩ : ByteArray) = r at *
    go_enter Tryz.func31, Tryz.ntmps31
    go_wp2_with (first | (go_at_call 63; refine (HT.out _).mono ?_; rintro e w2 ⟨rfl, hb2⟩; have HB := Aside0.mk hb2; clear hb2))
    go_ret
    exact ⟨rfl, HB.out⟩
  · have hl1 : ((s.size : Int) == (n : Int)) = false := beq_eq_false_iff_ne.2 (by omega)
    have hl2 : (s.size == n) = false := beq_eq_false_iff_ne.2 (by omega)
    have HV := Aside0.mk (show valB cs.data.toList n s = false by unfold valB; rw [decide_eq_false hl]; rfl)
    clear HT hl
    go_enter Tryz.func31, Tryz.ntmps31
    go_wp2_with fail
    go_ret
    exact ⟨by rw [HV.out]; rfl, Below.refl _ _⟩
def byteT (c : UInt8) : T3 := if c = 48 then some false else if c = 49 then some true else none
theorem byteT_byte3 : ∀ c : T3, byteT (byte3 c) = c
  | none => rfl
  | some false => rfl
  | some true => rfl
theorem byte3_byteT {c : UInt8} (h : c = 48 ∨ c = 49 ∨ c = 63) : byte3 (byteT c) = c := by
  rcases h with h | h | h <;> subst h <;> rfl
def vsOf (s : ByteArray) : List T3 := s.data.toList.map byteT
theorem vsOf_strV (v : List T3) : vsOf (strV v) = v := by
  simp only [vsOf, strV, List.map_map]
  exact (List.map_congr_left fun c _ => byteT_byte3 c).trans (List.map_id _)
theorem strV_vsOf {s : ByteArray} (h : ∀ c ∈ s.data.toList, c = 48 ∨ c = 49 ∨ c = 63) : strV (vsOf s) = s := by
  have e : (vsOf s).map byte3 = s.data.toList := by
    rw [vsOf, List.map_map]
    exact (List.map_congr_left fun c hc => byte3_byteT (h c hc)).trans (List.map_id _)
  unfold strV
  rw [e]
theorem strV_inj {v u : List T3} (h : strV v = strV u) : v = u := by rw [← vsOf_strV v, h, vsOf_strV]
theorem valB2 {n : Nat} {s : ByteArray} (h : valB [48, 49] n s = true) : ∃ v : List T3, v.length = n ∧ totV v ∧ s = strV v := by
  unfold valB at h
  rw [Bool.and_eq_true, decide_eq_true_eq, List.all_eq_true] at h
  have h2 : ∀ c ∈ s.data.toList, c = 48 ∨ c = 49 := fun c hc => by have := h.2 c hc; simpa using this
  refine ⟨vsOf s, ?_, ?_, (strV_vsOf fun c hc => ?_).symm⟩
  · rw [vsOf, List.length_map, Array.length_toList]; exact h.1
  · intro x hx
    obtain ⟨c, hc, rfl⟩ := List.mem_map.1 hx
    rcases h2 c hc with h | h <;> subst h <;> simp [byteT]
  · rcases h2 c hc with h | h
    · exact Or.inl h
    · exact Or.inr (Or.inl h)
end Go.Proofs.YtijaefmaceolbaaGreatDoor.Im

namespace Go.Proofs.YtijaefmaceolbaaGreatDoor.Im
open Go.RowKit Go.Proofs.YtijaefmaceolbaaGreatDoorW.PrintWords Go.Proofs.YtijaefmaceolbaaGreatDoorW.PrintLast Go.Proofs.YtijaefmaceolbaaGreatDoorW.PrintMore Go.Proofs.YtijaefmaceolbaaGreatDoor.Tr
set_option linter.unusedVariables false
set_option linter.unusedSimpArgs false
def OutS (r : ByteArray × Int) (w : World) (e : Ending) (w' : World) : Prop := e = .returned (.tuple #[.string r.1, .int .i64 r.2]) ∧ Below w.heap.size w w'
def str0 : ByteArray := ⟨#[]⟩
theorem of_cases {l : List (List UInt8)} {w w' : World} {e : Ending} (h : OfPost l w e w') :
    Below w.heap.size w w' ∧ ((sysE l ≠ 0 ∧ e = .returned (.tuple #[.slice none 0 0, .int .i64 (sysE l)])) ∨
      (sysE l = 0 ∧ ∃ A c, l.length ≤ c ∧ e = .returned (.tuple #[.slice A l.length c, .int .i64 0]) ∧ Kd.C kF w' A l.length (sysF l))) := by
  obtain ⟨v, rfl, hb, h1, h2⟩ := h
  refine ⟨hb, ?_⟩
  by_cases h0 : sysE l = 0
  · obtain ⟨A, c, rfl, hc, hC⟩ := Kd.R_reads (h1 h0)
    rw [sysF_len] at hc hC
    exact .inr ⟨h0, A, c, hc, by rw [h0, sysF_len], hC⟩
  · exact .inl ⟨h0, by rw [h2 h0]⟩
theorem of_bad {l : List (List UInt8)} (h : sysE l ≠ 0) (w : World) (A : Option Addr) (c : Nat) (hr : Kd.C Kd.string w A l.length (l.map strL)) :
    Calls Tryz.prog 27 #[.slice A l.length c] w fun e w' => e = .returned (.tuple #[.slice none 0 0, .int .i64 (sysE l)]) ∧ Below w.heap.size w w' :=
  (of_any l w A c hr).mono fun e w' hp => by
    obtain ⟨hb, ⟨_, he⟩ | ⟨h0, _⟩⟩ := of_cases hp
    · exact ⟨he, hb⟩
    · exact absurd h0 h
def OfGood (n : Nat) (fs : List Fm) (w : World) (e : Ending) (w' : World) : Prop :=
  ∃ A c, n ≤ c ∧ e = .returned (.tuple #[.slice A n c, .int .i64 0]) ∧ Kd.C kF w' A n fs ∧ Below w.heap.size w w'
theorem of_good {l : List (List UInt8)} (h : sysE l = 0) (w : World) (A : Option Addr) (c : Nat) (hr : Kd.C Kd.string w A l.length (l.map strL)) :
    Calls Tryz.prog 27 #[.slice A l.length c] w (OfGood l.length (sysF l) w) :=
  (of_any l w A c hr).mono fun e w' hp => by
    obtain ⟨hb, ⟨h0, _⟩ | ⟨h0, A, c, hc, he, hC⟩⟩ := of_cases hp
    · exact absurd h h0
    · exact ⟨A, c, hc, he, hC, hb⟩
def leastO (l : List (List UInt8)) : ByteArray × Int := if sysE l = 0 then (strV (leastV (sysF l)), 0) else (str0, sysE l)
theorem repeat_any (n : Nat) (hn : n ≤ 10) (w : World) : Calls Tryz.prog 28 #[.string ⟨#[63]⟩, .int .i64 (n : Int)] w fun e w' => e = .returned (.string (strV (noneV n))) ∧ Below w.heap.size w w' :=
  (Any.strings_Repeat Tryz.lays105 Tryz.Builder_Extra_105 ⟨#[63]⟩ n w (by omega) (by show 1 * n ≤ _; omega)).mono fun e w' ⟨h1, h2⟩ => ⟨by
    rw [h1]
    have e1 : ∀ n, Lib.repeatL (⟨#[63]⟩ : ByteArray).data.toList n = List.replicate n 63 := fun n => by
      induction n with
      | zero => rfl
      | succ n ih => rw [Lib.repeatL, ih, List.replicate_succ]; rfl
    rw [e1]
    unfold strV noneV
    rw [List.map_replicate]
    rfl, h2⟩
set_option maxHeartbeats 800000 in
set_option maxRecDepth 100000 in
theorem least_call (l : List (List UInt8)) (w : World) (A : Option Addr) (c : Nat) (hr : Kd.C Kd.string w A l.length (l.map strL)) :
    Calls Tryz.prog 8 #[.slice A l.length c] w (OutS (leastO l) w) := by
  by_cases h0 : sysE l = 0
  · have S := sys_ok h0
    have HO := Aside0.mk (of_good h0 w A c hr)
    have HR := Aside0.mk (show leastO l = (strV (leastV (sysF l)), 0) by unfold leastO; rw [if_pos h0])
    obtain ⟨n, hn⟩ : ∃ n, l.length = n := ⟨_, rfl⟩
    rw [hn] at HO S ⊢
    have HRep := Aside0.mk (fun w1 => repeat_any n S.n10 w1)
    have HN := Aside0.mk (fun (i : Nat) (w1 : World) (A : Option Addr) (c : Nat) => next_any S (v := iterV (sysF l) i (noneV n)) (by rw [iterV_len (by rw [S.len]; simp [noneV])]; exact S.len) w1 A c)
    have HL := Aside0.mk (show leastV (sysF l) = iterV (sysF l) n (noneV n) by unfold leastV; rw [S.len])
    have n0 : (0 : Int) ≤ (n : Int) := by omega
    have n10 : n ≤ 10 := S.n10
    clear hr S h0 hn
    go_enter Tryz.func8, Tryz.ntmps8
    go_wp2_with (first | (go_at_call 27; refine HO.out.mono ?_; rintro e w1 ⟨A1, c1, hc1, rfl, hC, hb⟩; have HC := Aside0.mk hC; have HB := Aside0.mk hb; have HCC := Aside0.mk hc1; clear hC hb hc1) | (go_at_call 28; refine (HRep.out _).mono ?_; rintro e w2 ⟨rfl, hb2⟩; have HC2 := Aside0.mk (Kd.C_below HC.out hb2); have HB2 := Aside0.mk (below_then HB.out HB.out.size hb2); clear hb2))
    clear HC HB
    go_loopw [6, 20] (fun v v20 wr => ∃ k : Nat, k ≤ n ∧ v20 = .int .i64 (k : Int) ∧ v = .string (strV (iterV (sysF l) k (noneV n))) ∧ Aside0 (Kd.C kF wr A1 n (sysF l)) ∧ Aside0 (Below w.heap.size w wr)) (fun _ v20 _ => n - (intOf v20).toNat)
    case atStart => exact ⟨0, by omega, rfl, rfl, HC2, HB2⟩
    case round =>
      clear HB2 HC2
      obtain ⟨k, hk, rfl, rfl, HC, HB⟩ := hrel
      by_cases hkn : k < n
      · have hkn' : (k : Int) < (n : Int) := by omega
        have HNk := Aside0.mk (HN.out k)
        go_wp2_with (first | (go_at_call 29; refine (HNk.out _ _ _ HC.out HCC.out).mono ?_; rintro e w3 ⟨rfl, hb3⟩; have HC3 := Aside0.mk (Kd.C_below HC.out hb3); have HB3 := Aside0.mk (below_then HB.out HB.out.size hb3); clear hb3))
        go_roundw
        case rel => exact ⟨k + 1, by omega, by go_num, rfl, HC3, HB3⟩
        case measure => simp [intOf]; omega
      · obtain rfl : n = k := by omega
        go_wp2_with fail
        go_ret2
        exact ⟨by rw [HR.out, HL.out]; rfl, HB.out⟩
  · have HR := Aside0.mk (show leastO l = (str0, sysE l) by unfold leastO; rw [if_neg h0])
    have HO := Aside0.mk (of_bad h0 w A c hr)
    have hne : (sysE l != 0) = true := bne_iff_ne.2 h0
    clear h0 hr
    generalize sysE l = x at *
    go_enter Tryz.func8, Tryz.ntmps8
    go_wp2_with (first | (go_at_call 27; refine HO.out.mono ?_; rintro e w1 ⟨rfl, hb⟩; have HB := Aside0.mk hb; clear hb))
    go_ret2
    exact ⟨by rw [HR.out]; rfl, HB.out⟩
end Go.Proofs.YtijaefmaceolbaaGreatDoor.Im

