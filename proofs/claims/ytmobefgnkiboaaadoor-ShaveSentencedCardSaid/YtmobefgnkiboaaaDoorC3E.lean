/- Further parts of the same walk: contracts of the functions that the law reaches, each under the conditions that it states. -/
import Derived.Test.YtmobefgnkiboaaaDoorC3D
import Derived.Shelf.Strings.Search3
import Derived.Shelf.Strings.SlTrimAscii
import Derived.Shelf.Strings.Builder1
import Derived.Shelf.Strings.Builder2
import Derived.Shelf.Strings.OnBuilder
namespace Go.Proofs
open Go.Shelf Go.RowKit
def Tryd.lays144_ren : Go.Shelf.Ren := ⟨fun | 144 => 65 | 143 => 70 | 219 => 74 | 217 => 79 | 225 => 78 | 224 => 77 | 267 => 80 | 266 => 81 | 314 => 82 | n => n, fun | 9 => 9 | 4 => 4 | 3 => 3 | 5 => 5 | 46 => 120 | 146 => 128 | 51 => 127 | n => n, fun | 1 => 0 | n => n⟩
theorem Tryd.lays144 : Go.Proofs.Lays.n144 Tryd.prog Tryd.lays144_ren := {
  mixed := by kernel_rfl
  f143 := Tryd.func70.trans (congrArg some (by kernel_rfl))
  f144 := Tryd.func65.trans (congrArg some (by kernel_rfl))
  f217 := Tryd.func79.trans (congrArg some (by kernel_rfl))
  f219 := Tryd.func74.trans (congrArg some (by kernel_rfl))
  f224 := Tryd.func77.trans (congrArg some (by kernel_rfl))
  f225 := Tryd.func78.trans (congrArg some (by kernel_rfl))
  f266 := Tryd.func81.trans (congrArg some (by kernel_rfl))
  f267 := Tryd.func80.trans (congrArg some (by kernel_rfl))
  f314 := Tryd.func82.trans (congrArg some (by kernel_rfl))
  t3 := Tryd.underlying3
  a3 := Tryd.isAgg3
  z3 := Tryd.sizeOf3
  v3 := Tryd.zeroValue3
  t4 := Tryd.underlying4
  a4 := Tryd.isAgg4
  z4 := Tryd.sizeOf4
  v4 := Tryd.zeroValue4
  t5 := Tryd.underlying5
  a5 := Tryd.isAgg5
  z5 := Tryd.sizeOf5
  v5 := Tryd.zeroValue5
  t9 := Tryd.underlying9
  a9 := Tryd.isAgg9
  z9 := Tryd.sizeOf9
  v9 := Tryd.zeroValue9
  t46 := Tryd.underlying120
  a46 := Tryd.isAgg120
  z46 := Tryd.sizeOf120
  v46 := Tryd.zeroValue120
  t51 := Tryd.underlying127
  a51 := Tryd.isAgg127
  z51 := Tryd.sizeOf127
  v51 := Tryd.zeroValue127
  t146 := Tryd.underlying128
  a146 := Tryd.isAgg128
  z146 := Tryd.sizeOf128
  v146 := Tryd.zeroValue128
  g1 := by kernel_rfl }
def Tryd.lays160_ren : Go.Shelf.Ren := ⟨fun | 160 => 45 | 232 => 56 | 231 => 55 | 227 => 57 | 234 => 59 | 233 => 58 | 236 => 61 | 235 => 60 | 228 => 66 | 271 => 69 | 151 => 68 | 197 => 67 | 120 => 73 | 152 => 72 | 260 => 71 | 137 => 75 | 119 => 76 | 224 => 77 | 225 => 78 | 217 => 79 | 266 => 81 | n => n, fun | 9 => 9 | 4 => 4 | 3 => 3 | 5 => 5 | 117 => 100 | 116 => 99 | 0 => 0 | 124 => 103 | 21 => 21 | 105 => 114 | 46 => 120 | 119 => 119 | 139 => 123 | 138 => 122 | n => n, fun | 3 => 1 | 4 => 2 | n => n⟩
theorem Tryd.lays160 : Go.Proofs.Lays.n160 Tryd.prog Tryd.lays160_ren := {
  mixed := by kernel_rfl
  f119 := Tryd.func76.trans (congrArg some (by kernel_rfl))
  f120 := Tryd.func73.trans (congrArg some (by kernel_rfl))
  f137 := Tryd.func75.trans (congrArg some (by kernel_rfl))
  f151 := Tryd.func68.trans (congrArg some (by kernel_rfl))
  f152 := Tryd.func72.trans (congrArg some (by kernel_rfl))
  f160 := Tryd.func45.trans (congrArg some (by kernel_rfl))
  f197 := Tryd.func67.trans (congrArg some (by kernel_rfl))
  f217 := Tryd.func79.trans (congrArg some (by kernel_rfl))
  f224 := Tryd.func77.trans (congrArg some (by kernel_rfl))
  f225 := Tryd.func78.trans (congrArg some (by kernel_rfl))
  f227 := Tryd.func57.trans (congrArg some (by kernel_rfl))
  f228 := Tryd.func66.trans (congrArg some (by kernel_rfl))
  f231 := Tryd.func55.trans (congrArg some (by kernel_rfl))
  f232 := Tryd.func56.trans (congrArg some (by kernel_rfl))
  f233 := Tryd.func58.trans (congrArg some (by kernel_rfl))
  f234 := Tryd.func59.trans (congrArg some (by kernel_rfl))
  f235 := Tryd.func60.trans (congrArg some (by kernel_rfl))
  f236 := Tryd.func61.trans (congrArg some (by kernel_rfl))
  f260 := Tryd.func71.trans (congrArg some (by kernel_rfl))
  f266 := Tryd.func81.trans (congrArg some (by kernel_rfl))
  f271 := Tryd.func69.trans (congrArg some (by kernel_rfl))
  t0 := Tryd.underlying0
  a0 := Tryd.isAgg0
  z0 := Tryd.sizeOf0
  v0 := Tryd.zeroValue0
  t3 := Tryd.underlying3
  a3 := Tryd.isAgg3
  z3 := Tryd.sizeOf3
  v3 := Tryd.zeroValue3
  t4 := Tryd.underlying4
  a4 := Tryd.isAgg4
  z4 := Tryd.sizeOf4
  v4 := Tryd.zeroValue4
  t5 := Tryd.underlying5
  a5 := Tryd.isAgg5
  z5 := Tryd.sizeOf5
  v5 := Tryd.zeroValue5
  t9 := Tryd.underlying9
  a9 := Tryd.isAgg9
  z9 := Tryd.sizeOf9
  v9 := Tryd.zeroValue9
  t21 := Tryd.underlying21
  a21 := Tryd.isAgg21
  z21 := Tryd.sizeOf21
  v21 := Tryd.zeroValue21
  t46 := Tryd.underlying120
  a46 := Tryd.isAgg120
  z46 := Tryd.sizeOf120
  v46 := Tryd.zeroValue120
  t105 := Tryd.underlying114
  a105 := Tryd.isAgg114
  z105 := Tryd.sizeOf114
  v105 := Tryd.zeroValue114
  t116 := Tryd.underlying99
  a116 := Tryd.isAgg99
  z116 := Tryd.sizeOf99
  t117 := Tryd.underlying100
  a117 := Tryd.isAgg100
  z117 := Tryd.sizeOf100
  v117 := Tryd.zeroValue100
  t119 := Tryd.underlying119
  a119 := Tryd.isAgg119
  z119 := Tryd.sizeOf119
  t124 := Tryd.underlying103
  a124 := Tryd.isAgg103
  z124 := Tryd.sizeOf103
  v124 := Tryd.zeroValue103
  t138 := Tryd.underlying122
  a138 := Tryd.isAgg122
  z138 := Tryd.sizeOf122
  v138 := Tryd.zeroValue122
  t139 := Tryd.underlying123
  a139 := Tryd.isAgg123
  z139 := Tryd.sizeOf123
  v139 := Tryd.zeroValue123
  g3 := by kernel_rfl
  g4 := by kernel_rfl }
def Tryd.lays156_ren : Go.Shelf.Ren := ⟨fun | 156 => 21 | 165 => 37 | 166 => 38 | 169 => 39 | 240 => 50 | 241 => 51 | 276 => 63 | 277 => 64 | n => n, fun | 31 => 27 | 9 => 9 | 3 => 3 | 4 => 4 | 0 => 0 | 20 => 20 | 72 => 73 | 76 => 77 | 70 => 70 | 37 => 71 | 75 => 76 | 127 => 93 | 164 => 104 | 5 => 5 | 80 => 79 | n => n, fun | n => n⟩
theorem Tryd.lays156 : Go.Proofs.Lays.n156 Tryd.prog Tryd.lays156_ren := {
  mixed := by kernel_rfl
  f156 := Tryd.func21.trans (congrArg some (by kernel_rfl))
  f165 := Tryd.func37.trans (congrArg some (by kernel_rfl))
  f166 := Tryd.func38.trans (congrArg some (by kernel_rfl))
  f169 := Tryd.func39.trans (congrArg some (by kernel_rfl))
  f240 := Tryd.func50.trans (congrArg some (by kernel_rfl))
  f241 := Tryd.func51.trans (congrArg some (by kernel_rfl))
  f276 := Tryd.func63.trans (congrArg some (by kernel_rfl))
  f277 := Tryd.func64.trans (congrArg some (by kernel_rfl))
  t0 := Tryd.underlying0
  a0 := Tryd.isAgg0
  z0 := Tryd.sizeOf0
  v0 := Tryd.zeroValue0
  t3 := Tryd.underlying3
  a3 := Tryd.isAgg3
  z3 := Tryd.sizeOf3
  v3 := Tryd.zeroValue3
  t4 := Tryd.underlying4
  a4 := Tryd.isAgg4
  z4 := Tryd.sizeOf4
  v4 := Tryd.zeroValue4
  t9 := Tryd.underlying9
  a9 := Tryd.isAgg9
  z9 := Tryd.sizeOf9
  v9 := Tryd.zeroValue9
  t20 := Tryd.underlying20
  a20 := Tryd.isAgg20
  z20 := Tryd.sizeOf20
  v20 := Tryd.zeroValue20
  t31 := Tryd.underlying27
  a31 := Tryd.isAgg27
  z31 := Tryd.sizeOf27
  v31 := Tryd.zeroValue27
  t37 := Tryd.underlying71
  a37 := Tryd.isAgg71
  z37 := Tryd.sizeOf71
  v37 := Tryd.zeroValue71
  t70 := Tryd.underlying70
  a70 := Tryd.isAgg70
  z70 := Tryd.sizeOf70
  v70 := Tryd.zeroValue70
  t72 := Tryd.underlying73
  a72 := Tryd.isAgg73
  z72 := Tryd.sizeOf73
  v72 := Tryd.zeroValue73
  t75 := Tryd.underlying76
  a75 := Tryd.isAgg76
  z75 := Tryd.sizeOf76
  v75 := Tryd.zeroValue76
  t76 := Tryd.underlying77
  a76 := Tryd.isAgg77
  z76 := Tryd.sizeOf77
  v76 := Tryd.zeroValue77
  t127 := Tryd.underlying93
  a127 := Tryd.isAgg93
  z127 := Tryd.sizeOf93
  v127 := Tryd.zeroValue93
  t164 := Tryd.underlying104
  a164 := Tryd.isAgg104
  z164 := Tryd.sizeOf104
  v164 := Tryd.zeroValue104 }
theorem Tryd.Builder_Extra_156 : Builder.Extra Tryd.prog Tryd.lays156_ren := {
  sizeBuilder := by kernel_rfl
  liesBuilder := by kernel_rfl
  t5 := Tryd.underlying5
  a5 := Tryd.isAgg5
  z5 := Tryd.sizeOf5
  v5 := Tryd.zeroValue5
  infoByte := by kernel_rfl
  cellsByte := by kernel_rfl
  sizeByte := by kernel_rfl
  neB5 := by decide }
theorem Tryd.strings_Join (bk o c : Nat) (xs : List ByteArray) (sep : ByteArray) (w : World) (hcells : ∀ (j : Nat) x, xs[j]? = some x → w.cell? ⟨bk, o + j, none⟩ = some (.string x)) (hbk : bk < w.heap.size) (hN : xs.length ≤ 140737488355328) (hcap : xs.length ≤ c) (hlen : (Lib.join (xs.map (·.data.toList)) sep.data.toList).length ≤ 140737488355328) :
    Calls Tryd.prog 21 #[.slice (some ⟨bk, o, none⟩) xs.length c, .string sep] w fun e w' => e = .returned (.string ⟨(Lib.join (xs.map (·.data.toList)) sep.data.toList).toArray⟩) ∧ Below w.heap.size w w' := Any.strings_Join Tryd.lays156 Tryd.Builder_Extra_156 bk o c xs sep w hcells hbk hN hcap hlen
end Go.Proofs

namespace Go.Proofs.YtmobefgnkiboaaaDoor.Sh
open Go.RowKit Go.Proofs.YtmobefgnkiboaaaDoorW.PrintWords Go.Proofs.YtmobefgnkiboaaaDoorW.PrintLast Go.Proofs.YtmobefgnkiboaaaDoorW.PrintMore
set_option linter.unusedVariables false
def letB (j : Nat) : UInt8 := UInt8.ofNat (97 + j)
def frmL : List Nat → List UInt8
  | [] => [49]
  | [j] => [33, letB j]
  | j :: k :: rest => [40, 33, letB j, 38] ++ frmL (k :: rest) ++ [41]
theorem frmL_len : ∀ l, (frmL l).length ≤ 6 * l.length + 1
  | [] => by simp [frmL]
  | [j] => by simp [frmL]
  | j :: k :: rest => by
    have := frmL_len (k :: rest)
    simp only [frmL, List.length_append, List.length_cons, List.length_nil] at *
    omega
def bytesA (l : List UInt8) : ByteArray := ⟨l.toArray⟩
theorem bytesA_size (l : List UInt8) : (bytesA l).size = l.length := by simp [bytesA, ByteArray.size]
theorem bytesA_append (a b : List UInt8) : bytesA a ++ bytesA b = bytesA (a ++ b) := by
  apply ByteArray.ext
  simp [bytesA, ByteArray.data_append]
theorem joinF (a b : List UInt8) : (Lib.join ([bytesA [40], bytesA a, bytesA [38], bytesA b, bytesA [41]].map (·.data.toList)) (bytesA []).data.toList) = [40] ++ a ++ [38] ++ b ++ [41] := by
  simp [Lib.join, bytesA, List.intercalate, List.intersperse]
theorem frm_step (M : List Nat) (q j : Nat) (h : M.drop q = j :: M.drop (q + 1)) (hq : q + 1 < M.length) : frmL (M.drop q) = [40] ++ [33, letB j] ++ [38] ++ frmL (M.drop (q + 1)) ++ [41] := by
  rw [h]
  have h2 : M.drop (q + 1) = M[q + 1] :: M.drop (q + 1 + 1) := List.drop_eq_getElem_cons hq
  rw [h2]
  simp [frmL]
theorem frm_last (M : List Nat) (q j : Nat) (h : M.drop q = j :: M.drop (q + 1)) (hq : q + 1 = M.length) : frmL (M.drop q) = [33, letB j] := by
  rw [h, hq, List.drop_length]; rfl
def sentB (o : List Nat) (i : Nat) : ByteArray := bytesA (frmL (memL (o.getD i 0)))
def sentAll (n : Nat) (o : List Nat) : Option (List ByteArray) := if (List.range n).all (fun i => decide ((sentB o i).size ≤ 40)) then some ((List.range n).map (sentB o)) else none
def SentR (w : World) (r : Option (List ByteArray)) (e : Ending) (w' : World) : Prop :=
  match r with
  | some l => ∃ v, e = .returned (.tuple #[v, .int .i64 0]) ∧ Kd.R Kd.string 9 w' w.heap.size (fun _ => True) v l ∧ Below w.heap.size w w'
  | none => e = .returned (.tuple #[.slice none 0 0, .int .i64 8]) ∧ Below w.heap.size w w'
def SentPost (n : Int) (l : List S43) (w : World) (e : Ending) (w' : World) : Prop :=
  if ofE n l = 0 then SentR w (if 10 < n then none else sentAll n.toNat (townO l)) e w'
  else e = .returned (.tuple #[.slice none 0 0, .int .i64 (ofE n l)]) ∧ Below w.heap.size w w'
theorem run_rune0 (w : World) : (convert 21 9 (.int .i32 97)).run Tryd.prog w = .ok (.string (bytesA [letB 0])) w := by kernel_rfl
theorem run_rune1 (w : World) : (convert 21 9 (.int .i32 98)).run Tryd.prog w = .ok (.string (bytesA [letB 1])) w := by kernel_rfl
theorem run_rune2 (w : World) : (convert 21 9 (.int .i32 99)).run Tryd.prog w = .ok (.string (bytesA [letB 2])) w := by kernel_rfl
theorem run_rune3 (w : World) : (convert 21 9 (.int .i32 100)).run Tryd.prog w = .ok (.string (bytesA [letB 3])) w := by kernel_rfl
theorem run_rune4 (w : World) : (convert 21 9 (.int .i32 101)).run Tryd.prog w = .ok (.string (bytesA [letB 4])) w := by kernel_rfl
theorem run_rune5 (w : World) : (convert 21 9 (.int .i32 102)).run Tryd.prog w = .ok (.string (bytesA [letB 5])) w := by kernel_rfl
theorem run_rune6 (w : World) : (convert 21 9 (.int .i32 103)).run Tryd.prog w = .ok (.string (bytesA [letB 6])) w := by kernel_rfl
theorem run_rune7 (w : World) : (convert 21 9 (.int .i32 104)).run Tryd.prog w = .ok (.string (bytesA [letB 7])) w := by kernel_rfl
theorem run_rune8 (w : World) : (convert 21 9 (.int .i32 105)).run Tryd.prog w = .ok (.string (bytesA [letB 8])) w := by kernel_rfl
theorem run_rune9 (w : World) : (convert 21 9 (.int .i32 106)).run Tryd.prog w = .ok (.string (bytesA [letB 9])) w := by kernel_rfl
theorem run_rune10 (w : World) : (convert 21 9 (.int .i32 107)).run Tryd.prog w = .ok (.string (bytesA [letB 10])) w := by kernel_rfl
theorem run_rune11 (w : World) : (convert 21 9 (.int .i32 108)).run Tryd.prog w = .ok (.string (bytesA [letB 11])) w := by kernel_rfl
theorem run_rune (j : Nat) (hj : j < 12) (w : World) : (convert 21 9 (.int .i32 (97 + (j : Int)))).run Tryd.prog w = .ok (.string (bytesA [letB j])) w := by
  rcases j with _|_|_|_|_|_|_|_|_|_|_|_|j
  · exact run_rune0 w
  · exact run_rune1 w
  · exact run_rune2 w
  · exact run_rune3 w
  · exact run_rune4 w
  · exact run_rune5 w
  · exact run_rune6 w
  · exact run_rune7 w
  · exact run_rune8 w
  · exact run_rune9 w
  · exact run_rune10 w
  · exact run_rune11 w
  · omega
theorem l_rune {ops : Array Oper} {Q : Exit → Act → World → Prop} {rest : List Oper} {o : Oper} {a : Act} {w : World} (hgd : o.guard = none) {x : Operand} (ho : o.op = .convert 21 9 x) (j : Nat) (hj : j < 12) (r : Int) (hx : a.eval x = .int .i32 r) (hr : r = 97 + (j : Int))
    (h : wpList Tryd.prog ops Q rest (a.put o.dst (.string (bytesA [letB j]))) w) : wpList Tryd.prog ops Q (o :: rest) a w := by
  subst hr
  refine wpList_plain hgd fun K hK => ?_
  have hl := run_rune j hj w
  have e : (execOp a.eval o).run Tryd.prog w = .ok (.value (.string (bytesA [letB j]))) w := by
    unfold execOp
    simp [ho, hx, hl, Result.andThen]
  unfold Oper.wp
  rw [e]
  exact hK _ _ h
set_option maxHeartbeats 3200000 in
set_option maxRecDepth 100000 in
theorem Sentences_any (n : Int) (A : Option Addr) (c : Nat) (l : List S43) (w : World) (hr : Kd.C k43 w A l.length l) (hc : l.length ≤ c) :
    Calls Tryd.prog 7 #[.int .i64 n, .slice A l.length c] w (SentPost n l w) := by
  have HO := Aside0.mk (of_A n A c l w hr hc)
  have HZ := Aside0.mk (ofA_size n l)
  have H1 := Aside0.mk (ofA_one n l)
  clear hr hc
  by_cases he : ofE n l = 0
  · have ok := okt_of he
    have hA : ofA n l = tnN n.toNat (townO l) := by rw [ofA, if_pos he]
    have hK : SentPost n l w = SentR w (if 10 < n then none else sentAll n.toNat (townO l)) := by funext e w'; simp [SentPost, he]
    have hnn := (ofE_ok he).1
    rw [hK]
    rw [hA] at HO HZ H1
    rw [he] at HO
    clear he hA hK
    generalize townO l = o at *
    obtain ⟨m, rfl⟩ : ∃ m : Nat, n = m := ⟨n.toNat, by omega⟩
    rw [Int.toNat_natCast] at *
    have HK := Aside0.mk ok
    have n12 := ok.n12
    clear ok hnn
    by_cases h10 : (10 : Int) < m
    · rw [if_pos h10]
      go_enter Tryd.func7, Tryd.ntmps7
      go_wp2_with fail
      refine HO.out.mono ?_
      rintro e w1 ⟨rfl, hb⟩
      have HB := Aside0.mk hb
      clear hb HO
      go_wp2_with (refine wpList_store_row rfl 47 _ _ rfl w1.heap.size (tnN m o) rfl rfl 47 (tnN 0 zero12) (heap_alloc_new w1 _) (by rw [info50, HZ.out]) (by rw [HZ.out]; rfl) H1.out ?_; rw [World.setRow_alloc_new])
      go_ret2
      exact ⟨rfl, below_alloc HB.out _⟩
    · rw [if_neg h10]
      have hd10 : decide ((10 : Int) < m) = false := decide_eq_false h10
      obtain ⟨R, hR⟩ : ∃ R, sentAll m o = R := ⟨_, rfl⟩
      rw [hR]
      have HR := Aside0.mk hR
      clear hR
      go_enter Tryd.func7, Tryd.ntmps7
      go_wp2_with fail
      refine HO.out.mono ?_
      rintro e w1 ⟨rfl, hb⟩
      have HB := Aside0.mk hb
      clear hb HO
      have HT : Aside0 (TnN (w1.alloc (.cells (tnN m o) 47)) w1.heap.size m o) := ⟨Blk.new _ _ _⟩
      have HB1 := Aside0.mk (below_alloc HB.out (.cells (tnN m o) 47))
      go_wp2_with (refine wpList_store_row rfl 47 _ _ rfl w1.heap.size (tnN m o) rfl rfl 47 (tnN 0 zero12) (heap_alloc_new w1 _) (by rw [info50, HZ.out]) (by rw [HZ.out]; rfl) H1.out ?_; rw [World.setRow_alloc_new])
      generalize w1.alloc (.cells (tnN m o) 47) = W0 at *
      generalize w1.heap.size = g6 at *
      clear HB
      have HW0 := HB1.out.size
      go_loopw [8, 28] (fun v8 v wr => ∃ i : Nat, i ≤ m ∧ v = .int .i64 (i : Int) ∧ Aside0 (Kd.R Kd.string 9 wr w.heap.size (fun _ => True) v8 ((List.range i).map (sentB o))) ∧ Aside0 (∀ j, j < i → (sentB o j).size ≤ 40) ∧ Aside0 (Below w.heap.size w wr) ∧ Aside0 (TnN wr g6 m o)) (fun _ v _ => m - (intOf v).toNat)
      case atStart => exact ⟨0, Nat.zero_le _, rfl, ⟨Kd.R_nil _ _ _ _ _⟩, ⟨fun j hj => absurd hj (by omega)⟩, HB1, HT⟩
      case round =>
        obtain ⟨i, hi, rfl, HR8, HS, HBr, HTr⟩ := hrel
        by_cases him : i < m
        · have co := TnN.cellS HTr.out i (by rw [HK.out.len]; omega)
          rw [Nat.add_comm] at co
          have hnx : o.getD i 0 < 4096 := Nat.lt_of_lt_of_le (HK.out.lt _) (Nat.pow_le_pow_right (by decide) HK.out.n12 : 2 ^ m ≤ 2 ^ 12)
          have hse : sentB o i = bytesA (frmL (memL (o.getD i 0))) := rfl
          generalize o.getD i 0 = nx at *
          have hml := memL_len nx
          have HML := Aside0.mk (fun x (hx : x ∈ memL nx) => memL_lt hx)
          have HM := Aside0.mk (fun w => members_any nx w hnx)
          rw [show memL nx = mem12 nx 0 from rfl] at *
          generalize mem12 nx 0 = M at *
          have hlm : (ints M).length = M.length := ints_length M
          have i0 : (0 : Int) ≤ i := by omega
          have i1 : (i : Int) < 12 := by omega
          have HSE := Aside0.mk hse
          clear hse
          go_wp2_with fail
          refine (HM.out _).mono ?_
          rintro e w3 ⟨v3, rfl, hr3, hb3⟩
          obtain ⟨A3, c3, rfl, hl3, hC3⟩ := Kd.R_reads hr3
          have HB3 := Aside0.mk (below_then HBr.out HBr.out.size hb3)
          have HT3 := Aside0.mk (Blk.later HTr.out hb3)
          have HR3 := Aside0.mk (Kd.R_below HR8.out hb3)
          have HC3 := Aside0.mk hC3
          rw [hlm] at HC3 hl3 ⊢
          clear hr3 hb3 hC3 HM co
          go_wp2_with fail
          go_loopw [11, 12] (fun v11 v wr => ∃ k : Nat, k ≤ M.length ∧ v = .int .i64 ((k : Int) - 1) ∧ v11 = .string (bytesA (frmL (M.drop k))) ∧ Aside0 (Below w3.heap.size w3 wr)) (fun _ v _ => (intOf v + 1).toNat)
          case atStart => exact ⟨M.length, Nat.le_refl _, rfl, by rw [List.drop_length]; rfl, ⟨Below.refl _ _⟩⟩
          case round =>
            obtain ⟨k, hk, rfl, rfl, HBx⟩ := hrel
            by_cases hk0 : 1 ≤ k
            · obtain ⟨q, rfl⟩ : ∃ q, k = q + 1 := ⟨k - 1, by omega⟩
              rw [show (((q + 1 : Nat) : Int) - 1) = (q : Int) by omega]
              obtain ⟨ad, rfl, cx⟩ := Kd.at_int HC3.out (q : Int) (by omega) (by omega)
              replace cx := (HBx.out.cell (World.block_lt_of_cell? w3 _ cx)).trans cx
              rw [rd_ints, Int.toNat_natCast] at cx
              have hje : M.getD q 0 = M[q] := by rw [List.getD_eq_getElem?_getD, List.getElem?_eq_getElem (by omega)]; rfl
              have hj12 : M[q] < 12 := HML.out _ (List.getElem_mem (by omega))
              rw [hje] at cx
              have hdr : M.drop q = M[q] :: M.drop (q + 1) := List.drop_eq_getElem_cons (by omega)
              have HDR := Aside0.mk hdr
              generalize M[q] = j at *
              clear hdr hje
              have hsl : (frmL (M.drop (q + 1))).length ≤ 73 := by have := frmL_len (M.drop (q + 1)); rw [List.length_drop] at this; omega
              by_cases hkm : q + 1 = M.length
              · have neq : ((q : Int) == ((M.length : Int) - 1)) = true := beq_iff_eq.2 (by omega)
                have hf := frm_last M q j HDR.out hkm
                have HF := Aside0.mk hf
                have hown : bytesA [33] ++ bytesA [letB j] = bytesA [33, letB j] := bytesA_append _ _
                have HOW := Aside0.mk hown
                clear hf hown
                generalize frmL (M.drop (q + 1)) = so at *
                go_wp2_with (refine l_rune rfl rfl j hj12 _ rfl rfl ?_)
                go_roundw
                case rel => exact ⟨q, by omega, rfl, by rw [HF.out]; exact congrArg Value.string HOW.out, HBx⟩
                case measure => simp [intOf]; try omega
              · have neq : ((q : Int) == ((M.length : Int) - 1)) = false := beq_eq_false_iff_ne.2 (by omega)
                have hf := frm_step M q j HDR.out (by omega)
                have HF := Aside0.mk hf
                clear hf
                generalize frmL (M.drop (q + 1)) = so at *
                have HOW := Aside0.mk (show bytesA [33] ++ bytesA [letB j] = bytesA [33, letB j] from bytesA_append [33] [letB j])
                have HJN := Aside0.mk (joinF [33, letB j] so)
                go_wp2_with (refine l_rune rfl rfl j hj12 _ rfl rfl ?_)
                have hbw : Below wr.heap.size wr (wr.alloc (.cells #[.string (bytesA [40]), .string (bytesA [33, letB j]), .string (bytesA [38]), .string (bytesA so), .string (bytesA [41])] 9)) := below_alloc (Below.refl _ _) _
                have hJ := Tryd.strings_Join wr.heap.size 0 5 [bytesA [40], bytesA [33, letB j], bytesA [38], bytesA so, bytesA [41]] (bytesA []) (wr.alloc (.cells #[.string (bytesA [40]), .string (bytesA [33, letB j]), .string (bytesA [38]), .string (bytesA so), .string (bytesA [41])] 9))
                  (fun jj x hx => by
                    rw [Nat.zero_add, (Blk.new wr 9 _).cell jj]
                    match jj, hx with
                    | 0, hx => simp at hx; subst hx; rfl
                    | 1, hx => simp at hx; subst hx; rfl
                    | 2, hx => simp at hx; subst hx; rfl
                    | 3, hx => simp at hx; subst hx; rfl
                    | 4, hx => simp at hx; subst hx; rfl
                    | (n + 5), hx => simp at hx)
                  (by simp) (by simp) (by simp) (by rw [HJN.out]; simp; omega)
                rw [HJN.out, ← HF.out, ← HOW.out] at hJ
                refine hJ.mono ?_
                rintro e w5 ⟨rfl, hb5⟩
                rw [HOW.out] at hb5
                have HB5 := Aside0.mk (below_then HBx.out HBx.out.size (below_then hbw hbw.size hb5))
                clear hbw hJ hb5
                go_wp2_with fail
                go_roundw
                case rel => exact ⟨q, by omega, rfl, rfl, HB5⟩
                case measure => simp [intOf]; try omega
            · obtain rfl : k = 0 := by omega
              rw [List.drop_zero]
              have kz : ¬ (0 : Int) ≤ ((0 : Nat) : Int) - 1 := by omega
              have hfl := frmL_len M
              have hse := HSE.out
              have HS1 : Aside0 ((sentB o i).size = (frmL M).length) := ⟨by rw [hse, bytesA_size]⟩
              generalize frmL M = fM at *
              have hsz : ((bytesA fM).size : Int) = (fM.length : Int) := by rw [bytesA_size]
              have HRx := Aside0.mk (Kd.R_below HR3.out HBx.out)
              have HTx := Aside0.mk (Blk.later HT3.out HBx.out)
              have HBxx := Aside0.mk (below_then HB3.out HB3.out.size HBx.out)
              have HSE2 := Aside0.mk hse
              generalize hsb : bytesA fM = sb at *
              have hs2 : sb.size = fM.length := by rw [← hsb, bytesA_size]
              clear hsb hsz hse
              by_cases h40 : fM.length ≤ 40
              · have h40' : ¬ (40 < (sb.size : Int)) := by omega
                have HS2 : Aside0 (∀ j, j < i + 1 → (sentB o j).size ≤ 40) := ⟨fun j hj => by
                  rcases Nat.lt_or_ge j i with h | h
                  · exact HS.out j h
                  · obtain rfl : j = i := by omega
                    rw [HS1.out]; exact h40⟩
                have HRG : Aside0 ((List.range (i + 1)).map (sentB o) = (List.range i).map (sentB o) ++ [sb]) := ⟨by rw [List.range_succ, List.map_append, ← HSE2.out]; rfl⟩
                have hLl : ((List.range i).map (sentB o)).length = i := by simp
                generalize (List.range i).map (sentB o) = L at *
                have HL := Aside0.mk hLl
                clear hLl hs2
                go_wp2_with (first | ((with_reducible refine gate_builtin (b := .append) (xs := #[.tmp 64, .tmp 66]) rfl ?_); at_builtin; refine Kd.R_append Kd.string (w0 := w) w.heap.size rfl (.tmp 64) (.tmp 66) 27 9 (.string ⟨#[]⟩) 16 rfl Tryd.underlying27 info9 rfl (by decide) (by omega) u8 L sb [.string sb] (fun _ => True) (fun _ => False) rfl rfl rfl (fun _ hk => hk.elim) (fun _ _ => trivial) HRx.out HBxx.out HBxx.out.size (by have := HL.out; omega) ?_; intro v9 w9 ho hb hg hat; have HO9 := Aside0.mk ho; have HB9 := Aside0.mk hb; have HT9 := Aside0.mk (Blk.gb HTx.out hg (Kd.R_ne HRx.out HTx.out (by decide))); clear ho hb hg hat))
                go_roundw
                case rel => exact ⟨i + 1, by omega, by go_num, ⟨by rw [HRG.out]; exact HO9.out⟩, HS2, HB9, HT9⟩
                case measure => simp [intOf]; try omega
              · have h40' : 40 < (sb.size : Int) := by omega
                have HF := Aside0.mk (show R = none by
                  rw [← HR.out, sentAll, if_neg]
                  rw [List.all_eq_true]
                  intro h
                  have := h i (List.mem_range.2 him)
                  rw [decide_eq_true_eq, HS1.out] at this
                  exact h40 this)
                clear hs2
                go_wp2_with fail
                go_ret2
                rw [HF.out]
                exact ⟨rfl, HBxx.out⟩
        · obtain rfl : i = m := by omega
          have HF := Aside0.mk (show R = some ((List.range i).map (sentB o)) by
            rw [← HR.out, sentAll, if_pos]
            rw [List.all_eq_true]
            exact fun x hx => decide_eq_true (HS.out x (List.mem_range.1 hx)))
          go_wp2_with fail
          go_ret2
          rw [HF.out]
          exact ⟨_, rfl, HR8.out, HBr.out⟩
  · have hK : SentPost n l w = fun e w' => e = .returned (.tuple #[.slice none 0 0, .int .i64 (ofE n l)]) ∧ Below w.heap.size w w' := by funext e w'; simp [SentPost, he]
    rw [hK]
    have hb : (ofE n l != 0) = true := bne_iff_ne.2 he
    have hb' : (ofE n l == 0) = false := beq_eq_false_iff_ne.2 he
    clear hK he
    generalize ofE n l = er at *
    go_enter Tryd.func7, Tryd.ntmps7
    go_wp2_with fail
    refine HO.out.mono ?_
    rintro e w1 ⟨rfl, hb⟩
    have HB := Aside0.mk hb
    clear hb HO
    go_wp2_with (refine wpList_store_row rfl 47 _ _ rfl w1.heap.size (ofA n l) rfl rfl 47 (tnN 0 zero12) (heap_alloc_new w1 _) (by rw [info50, HZ.out]) (by rw [HZ.out]; rfl) H1.out ?_)
    go_ret2
    exact ⟨rfl, by rw [World.setRow_alloc_new]; exact below_alloc HB.out _⟩
end Go.Proofs.YtmobefgnkiboaaaDoor.Sh
namespace Go.Proofs.YtmobefgnkiboaaaDoor.Sh
open Go.RowKit Go.Proofs.YtmobefgnkiboaaaDoorW.PrintWords Go.Proofs.YtmobefgnkiboaaaDoorW.PrintLast Go.Proofs.YtmobefgnkiboaaaDoorW.PrintMore
set_option linter.unusedVariables false
theorem run_slice2 (w : World) (A : Option Addr) (n c : Nat) (hn : 2 ≤ n) (hc : n ≤ c) :
    (Instr.sliceAt 22 (.slice A n c) none (some (.int .i64 2)) none).run Tryd.prog w = .ok (.slice A 2 c) w := by
  have hu : Tryd.prog.underlying 22 = some (.slice (Tryd.prog.elem 22)) := by kernel_rfl
  rw [run_sliceAt_slice w _ _ _ _ _ hu, run_slice_h w 22 A n c hu .i64 2 (by omega) (by omega)]
  have hs : (sizeOf (Tryd.prog.elem 22)).run Tryd.prog w = .ok 2 w := by kernel_rfl
  rw [hs]
  simp only [Result.andThen_ok, sliced]
  cases A with
  | none => simp
  | some b => simp [add_zero]
theorem l_slice2 {ops : Array Oper} {Q : Exit → Act → World → Prop} {rest : List Oper} {o : Oper} {a : Act} {w : World} (hgd : o.guard = none) {x : Operand} (ho : o.op = .slice 22 x none (some (.const (.int .i64 2))) none) (A : Option Addr) (n c : Nat) (hx : a.eval x = .slice A n c) (hn : 2 ≤ n) (hc : n ≤ c)
    (h : wpList Tryd.prog ops Q rest (a.put o.dst (.slice A 2 c)) w) : wpList Tryd.prog ops Q (o :: rest) a w := by
  refine wpList_plain hgd fun K hK => ?_
  have hl := run_slice2 w A n c hn hc
  have hy : a.eval (.const (.int .i64 2)) = .int .i64 2 := rfl
  have e : (execOp a.eval o).run Tryd.prog w = .ok (.value (.slice A 2 c)) w := by
    unfold execOp
    simp [ho, hx, Result.andThen]
    rw [hy, hl]
  unfold Oper.wp
  rw [e]
  exact hK _ _ h
def ring3 : List S43 := [⟨0, 1⟩, ⟨1, 2⟩, ⟨2, 0⟩]
def ring4 : List S43 := [⟨0, 1⟩, ⟨1, 2⟩, ⟨2, 3⟩, ⟨3, 0⟩]
def path3 : List S43 := [⟨0, 1⟩, ⟨1, 2⟩]
theorem ring3_f : pomadelaw02_ring.f 5 3 = some ring3 := by kernel_rfl
theorem ring4_f : pomadelaw02_ring.f 6 4 = some ring4 := by kernel_rfl
theorem k3_E : ofE 3 ring3 = 0 := by decide
theorem k4_E : ofE 4 ring4 = 0 := by decide
theorem p3_E : ofE 3 path3 = 0 := by decide
theorem k3_T : townO ring3 = [2, 4, 1, 0, 0, 0, 0, 0, 0, 0, 0, 0] := by decide
theorem k4_T : townO ring4 = [2, 4, 8, 1, 0, 0, 0, 0, 0, 0, 0, 0] := by decide
theorem p3_T : townO path3 = [2, 4, 0, 0, 0, 0, 0, 0, 0, 0, 0, 0] := by decide
theorem k3_none : firstS (fun s => kerB (3 : Int).toNat (townO ring3) s (2 ^ (3 : Int).toNat - 1)) (3 : Int).toNat = none := by rw [k3_T]; decide
theorem k3_odd : oddS (3 : Int).toNat (townO ring3) = some [0, 1, 2] := by rw [k3_T]; decide
theorem k4_many : manyK (4 : Int).toNat (townO ring4) (2 ^ (4 : Int).toNat) = 2 := by rw [k4_T]; decide
theorem p3_rank : rankF (townO path3) (3 : Int).toNat [] = some [0, 1, 0] := by rw [p3_T]; decide
theorem p3_sent : sentAll (3 : Int).toNat (townO path3) = some [⟨#[33, 98]⟩, ⟨#[33, 99]⟩, ⟨#[49]⟩] := by rw [p3_T]; rfl
theorem ring_any (k : Nat) (n : Int) (r : List S43) (w : World) (h : pomadelaw02_ring.f k n = some r) :
    Calls Tryd.prog 15 #[.int .i64 n] w fun e w' => ∃ (A : Option Addr) (c : Nat), e = .returned (.slice A r.length c) ∧ r.length ≤ c ∧ Kd.C k43 w' A r.length r ∧ Below w.heap.size w w' :=
  (pomadelaw02_ring.calls k n r w h).mono fun e w' ⟨v, h1, h2, h3⟩ => by
    obtain ⟨A, c, rfl, hl, hC⟩ := Kd.R_reads h2
    exact ⟨A, c, h1, hl, hC, h3⟩
theorem Kernel_ring (A : Option Addr) (c : Nat) (w : World) (hr : Kd.C k43 w A 3 ring3) (hc : 3 ≤ c) :
    Calls Tryd.prog 14 #[.int .i64 3, .slice A 3 c] w fun e w' => e = .returned (.tuple #[.slice none 0 0, .int .i64 10]) ∧ Below w.heap.size w w' :=
  (Kernel_any 3 A c ring3 w hr hc).mono fun e w' h => by
    unfold KernelPost at h
    rw [if_pos k3_E, k3_none] at h
    exact h
theorem Odd_ring (A : Option Addr) (c : Nat) (w : World) (hr : Kd.C k43 w A 3 ring3) (hc : 3 ≤ c) :
    Calls Tryd.prog 16 #[.int .i64 3, .slice A 3 c] w fun e w' => ∃ A c, e = .returned (.tuple #[.slice (some A) 3 c, .int .i64 0]) ∧ 3 ≤ c ∧ Kd.C (Kd.int .i64) w' (some A) 3 [0, 1, 2] ∧ Below w.heap.size w w' :=
  (Odd_any 3 A c ring3 w hr hc).mono fun e w' h => by
    unfold OddPost at h
    rw [if_pos k3_E, k3_odd] at h
    exact h
theorem Kernels_ring (A : Option Addr) (c : Nat) (w : World) (hr : Kd.C k43 w A 4 ring4) (hc : 4 ≤ c) :
    Calls Tryd.prog 9 #[.int .i64 4, .slice A 4 c] w fun e w' => e = .returned (.tuple #[.int .i64 2, .int .i64 0]) ∧ Below w.heap.size w w' :=
  (Kernels_any 4 A c ring4 w hr hc).mono fun e w' h => by
    unfold KernelsPost at h
    rw [if_pos k4_E, k4_many, k4_E] at h
    exact h
theorem Ranks_path (A : Option Addr) (c : Nat) (w : World) (hr : Kd.C k43 w A 2 path3) (hc : 2 ≤ c) :
    Calls Tryd.prog 17 #[.int .i64 3, .slice A 2 c] w fun e w' => ∃ A c, e = .returned (.tuple #[.slice (some A) 3 c, .int .i64 0]) ∧ 3 ≤ c ∧ Kd.C (Kd.int .i64) w' (some A) 3 [0, 1, 0] ∧ Below w.heap.size w w' :=
  (Ranks_any 3 A c path3 w hr hc).mono fun e w' h => by
    unfold RanksPost at h
    rw [if_pos p3_E, p3_rank] at h
    exact h
theorem Sent_path (A : Option Addr) (c : Nat) (w : World) (hr : Kd.C k43 w A 2 path3) (hc : 2 ≤ c) :
    Calls Tryd.prog 7 #[.int .i64 3, .slice A 2 c] w fun e w' => ∃ A c, e = .returned (.tuple #[.slice A 3 c, .int .i64 0]) ∧ 3 ≤ c ∧ Kd.C Kd.string w' A 3 [⟨#[33, 98]⟩, ⟨#[33, 99]⟩, ⟨#[49]⟩] ∧ Below w.heap.size w w' :=
  (Sentences_any 3 A c path3 w hr hc).mono fun e w' h => by
    unfold SentPost at h
    rw [if_pos p3_E, if_neg (by omega), p3_sent] at h
    obtain ⟨v, h1, h2, h3⟩ := h
    obtain ⟨A, c, rfl, hl, hC⟩ := Kd.R_reads h2
    exact ⟨A, c, h1, hl, hC, h3⟩
theorem same3 (a b c : Int) (A B : Option Addr) (c0 c1 : Nat) (w : World) (h0 : Kd.C (Kd.int .i64) w A 3 [a, b, c]) (h1 : Kd.C (Kd.int .i64) w B 3 [a, b, c]) (hc0 : 3 ≤ c0) (hc1 : 3 ≤ c1) :
    Calls Tryd.prog 18 #[.slice A 3 c0, .slice B 3 c1] w fun e w' => e = .returned (.bool true) ∧ Drawn0 w w' :=
  pomadelaw02_same.calls 6 A c0 [a, b, c] B c1 [a, b, c] true w h0 hc0 h1 hc1 (by
    have e1 : wrap64 1 = 1 := by unfold wrap64; omega
    have e2 : wrap64 2 = 2 := by unfold wrap64; omega
    have e3 : wrap64 3 = 3 := by unfold wrap64; omega
    simp [pomadelaw02_same.f, pomadelaw02_same.l0, e1, e2, e3, rd])
set_option maxHeartbeats 3200000 in
set_option maxRecDepth 100000 in
theorem alive_any (w : World) : Calls Tryd.prog 6 #[] w fun e w' => e = .returned (.bool true) ∧ Below w.heap.size w w' := by
  go_enter Tryd.func6, Tryd.ntmps6
  go_wp2_with fail
  refine (ring_any 5 3 ring3 _ ring3_f).mono ?_
  rintro e w1 ⟨A1, c1, rfl, hc1, hC1, hb1⟩
  have HB1 := Aside0.mk hb1
  have HC1 := Aside0.mk hC1
  clear hb1 hC1
  go_wp2_with fail
  refine (Kernel_ring A1 c1 _ HC1.out hc1).mono ?_
  rintro e w2 ⟨rfl, hb2⟩
  have HB2 := Aside0.mk (below_then HB1.out HB1.out.size hb2)
  clear hb2 HB1 HC1
  go_wp2_with fail
  refine (ring_any 5 3 ring3 _ ring3_f).mono ?_
  rintro e w3 ⟨A3, c3, rfl, hc3, hC3, hb3⟩
  have HB3 := Aside0.mk (below_then HB2.out HB2.out.size hb3)
  have HC3 := Aside0.mk hC3
  clear hb3 hC3 HB2
  go_wp2_with fail
  refine (Odd_ring A3 c3 _ HC3.out hc3).mono ?_
  rintro e w4 ⟨A4, c4, rfl, hc4, hC4, hb4⟩
  have HB4 := Aside0.mk (below_then HB3.out HB3.out.size hb4)
  have HC4 := Aside0.mk hC4
  clear hb4 hC4 HB3 HC3
  go_wp2_with fail
  refine (ring_any 6 4 ring4 _ ring4_f).mono ?_
  rintro e w5 ⟨A5, c5, rfl, hc5, hC5, hb5⟩
  have HB5 := Aside0.mk (below_then HB4.out HB4.out.size hb5)
  have HD5 := Aside0.mk (Kd.C_below HC4.out hb5)
  have HC5 := Aside0.mk hC5
  clear hb5 hC5 HB4 HC4
  go_wp2_with fail
  refine (Kernels_ring A5 c5 _ HC5.out hc5).mono ?_
  rintro e w6 ⟨rfl, hb6⟩
  have HB6 := Aside0.mk (below_then HB5.out HB5.out.size hb6)
  have HD6 := Aside0.mk (Kd.C_below HD5.out hb6)
  clear hb6 HB5 HC5 HD5
  go_wp2_with fail
  refine (ring_any 5 3 ring3 _ ring3_f).mono ?_
  rintro e w7 ⟨A7, c7, rfl, hc7, hC7, hb7⟩
  have HB7 := Aside0.mk (below_then HB6.out HB6.out.size hb7)
  have HD7 := Aside0.mk (Kd.C_below HD6.out hb7)
  have hC7t := Kd.C_take (m := 2) hC7 (by decide)
  have HC7 := Aside0.mk hC7t
  have hc7' : 3 ≤ c7 := hc7
  clear hb7 hC7 HB6 HD6 hC7t
  go_wp2_with (refine l_slice2 rfl rfl A7 3 c7 rfl (by omega) hc7' ?_)
  refine (Ranks_path A7 c7 _ HC7.out (by omega)).mono ?_
  rintro e w8 ⟨A8, c8, rfl, hc8, hC8, hb8⟩
  have HB8 := Aside0.mk (below_then HB7.out HB7.out.size hb8)
  have HD8 := Aside0.mk (Kd.C_below HD7.out hb8)
  have HC8 := Aside0.mk hC8
  clear hb8 hC8 HB7 HD7 HC7
  go_wp2_with fail
  refine (ring_any 5 3 ring3 _ ring3_f).mono ?_
  rintro e w9 ⟨A9, c9, rfl, hc9, hC9, hb9⟩
  have HB9 := Aside0.mk (below_then HB8.out HB8.out.size hb9)
  have HD9 := Aside0.mk (Kd.C_below HD8.out hb9)
  have HE9 := Aside0.mk (Kd.C_below HC8.out hb9)
  have hC9t := Kd.C_take (m := 2) hC9 (by decide)
  have HC9 := Aside0.mk hC9t
  have hc9' : 3 ≤ c9 := hc9
  clear hb9 hC9 HB8 HD8 HC8 hC9t
  go_wp2_with (refine l_slice2 rfl rfl A9 3 c9 rfl (by omega) hc9' ?_)
  refine (Sent_path A9 c9 _ HC9.out (by omega)).mono ?_
  rintro e wa ⟨Aa, ca, rfl, hca, hCa, hba⟩
  have HBa := Aside0.mk (below_then HB9.out HB9.out.size hba)
  have HDa := Aside0.mk (Kd.C_below HD9.out hba)
  have HEa := Aside0.mk (Kd.C_below HE9.out hba)
  have HFa := Aside0.mk hCa
  clear hba hCa HB9 HD9 HE9 HC9
  go_wp2_with fail
  have hbb : Below wa.heap.size wa (wa.alloc (.cells #[.int .i64 0, .int .i64 1, .int .i64 2] 3)) := below_alloc (Below.refl _ _) _
  have hCb := C_nums (l := [0, 1, 2]) (Blk.new wa 3 (numsA [0, 1, 2])) (by decide)
  refine (same3 0 1 2 (some A4) (some ⟨wa.heap.size, 0, none⟩) c4 3 _ (Kd.C_below HDa.out hbb) hCb hc4 (by omega)).mono ?_
  rintro e wb ⟨rfl, hdb⟩
  have hbw := below_then hbb hbb.size hdb.below
  have HBb := Aside0.mk (below_then HBa.out HBa.out.size hbw)
  have HEb := Aside0.mk (Kd.C_below HEa.out hbw)
  have HFb := Aside0.mk (Kd.C_below HFa.out hbw)
  clear hbb hCb hdb hbw HBa HDa HEa HFa
  go_wp2_with fail
  have hbc : Below wb.heap.size wb (wb.alloc (.cells #[.int .i64 0, .int .i64 1, .int .i64 0] 3)) := below_alloc (Below.refl _ _) _
  have hCc := C_nums (l := [0, 1, 0]) (Blk.new wb 3 (numsA [0, 1, 0])) (by decide)
  refine (same3 0 1 0 (some A8) (some ⟨wb.heap.size, 0, none⟩) c8 3 _ (Kd.C_below HEb.out hbc) hCc hc8 (by omega)).mono ?_
  rintro e wc ⟨rfl, hdc⟩
  have hbw := below_then hbc hbc.size hdc.below
  have HBc := Aside0.mk (below_then HBb.out HBb.out.size hbw)
  have hFc := Kd.C_below HFb.out hbw
  clear hbc hCc hdc hbw HBb HEb HFb
  obtain ⟨ad, rfl, s0⟩ := Kd.at_string hFc 0 (by omega) (by omega)
  obtain ⟨_, e1, s1⟩ := Kd.at_string hFc 1 (by omega) (by omega)
  cases e1
  obtain ⟨_, e1, s2⟩ := Kd.at_string hFc 2 (by omega) (by omega)
  cases e1
  have s0' : wc.cell? ad = some (.string ⟨#[33, 98]⟩) := s0
  have s1' : wc.cell? ⟨ad.block, ad.off + 1, none⟩ = some (.string ⟨#[33, 99]⟩) := s1
  have s2' : wc.cell? ⟨ad.block, ad.off + 2, none⟩ = some (.string ⟨#[49]⟩) := s2
  clear s0 s1 s2 hFc
  go_wp2_with fail
  go_ret
  exact ⟨rfl, HBc.out⟩
end Go.Proofs.YtmobefgnkiboaaaDoor.Sh

namespace Go.Proofs.YtmobefgnkiboaaaDoor.Sh
open Go.RowKit Go.Proofs.YtmobefgnkiboaaaDoorW.PrintWords Go.Proofs.YtmobefgnkiboaaaDoorW.PrintLast Go.Proofs.YtmobefgnkiboaaaDoorW.PrintMore
set_option linter.unusedVariables false
def Gives {α : Type} (f : Nat → Option α) (r : α) : Prop := ∃ k0, ∀ k, k0 ≤ k → f k = some r
theorem Gives.now {α : Type} {g : Nat → Option α} {r : α} (h : ∀ k, g (k + 1) = some r) : Gives g r :=
  ⟨1, fun k hk => by obtain ⟨m, rfl⟩ : ∃ m, k = m + 1 := ⟨k - 1, by omega⟩; exact h m⟩
theorem Gives.all {α : Type} {g : Nat → Option α} {r : α} (h : ∀ k, g k = some r) : Gives g r := ⟨0, fun k _ => h k⟩
theorem Gives.step {α β : Type} {f : Nat → Option α} {r : α} {g : Nat → Option β} {s : β} (h : Gives f r) (hs : ∀ k, f k = some r → g (k + 1) = some s) : Gives g s := by
  obtain ⟨k0, h⟩ := h
  exact ⟨k0 + 1, fun k hk => by obtain ⟨m, rfl⟩ : ∃ m, k = m + 1 := ⟨k - 1, by omega⟩; exact hs m (h m (by omega))⟩
theorem Gives.map {α β : Type} {f : Nat → Option α} {r : α} {g : Nat → Option β} {s : β} (h : Gives f r) (hs : ∀ k, f k = some r → g k = some s) : Gives g s := by
  obtain ⟨k0, h⟩ := h
  exact ⟨k0, fun k hk => hs k (h k hk)⟩
theorem shl1 (i : Nat) (h : i < 62) : shl .i64 1 (i : Int) = ((2 ^ i : Nat) : Int) := by
  unfold shl
  rw [Int.toNat_natCast, Nat.min_eq_left (by show i ≤ 64; omega), Int.one_mul, two_pow_nat]
  have : 2 ^ i < 2 ^ 62 := Nat.pow_lt_pow_right (by decide) h
  exact wr62 _ (Int.natCast_nonneg _) (by exact_mod_cast this)
theorem rd_takes (o : List Nat) (n a : Nat) (h : a < n) : rd (ints (o.take n)) a = ((o.getD a 0 : Nat) : Int) := by
  rw [rd_ints]
  simp [List.getD_eq_getElem?_getD, h]
theorem town_step (o : List Nat) (n a b : Nat) (ha : a < n) (hb : b < 12) (hlt : o.getD a 0 < 2 ^ 62) :
    (ints (o.take n)).set a (bits .or .i64 (rd (ints (o.take n)) a) (shl .i64 1 b)) = ints ((o.set a (o.getD a 0 ||| 2 ^ b)).take n) := by
  rw [rd_takes o n a ha, shl1 b (by omega), b_or _ _ hlt (Nat.pow_lt_pow_right (by decide) (by omega)), List.take_set, ints, ← List.map_set]
  rfl
theorem pre_lt {n : Nat} {l : List S43} {k : Nat} (h : PreOk n l k) (i : Nat) : (townO (l.take k)).getD i 0 < 2 ^ n := by
  refine foldl_lt n (l.take k) zero12 (fun i => ?_) (fun p hp => ?_) i
  · have hz : 0 < 2 ^ n := Nat.two_pow_pos n
    have : zero12.getD i 0 = 0 := by
      rcases Nat.lt_or_ge i 12 with h | h
      · have : i = 0 ∨ i = 1 ∨ i = 2 ∨ i = 3 ∨ i = 4 ∨ i = 5 ∨ i = 6 ∨ i = 7 ∨ i = 8 ∨ i = 9 ∨ i = 10 ∨ i = 11 := by omega
        rcases this with rfl | rfl | rfl | rfl | rfl | rfl | rfl | rfl | rfl | rfl | rfl | rfl <;> rfl
      · simp [zero12, List.getD_eq_getElem?_getD, h]
    omega
  · obtain ⟨j, hj, rfl⟩ := List.getElem_of_mem hp
    have hj' : j < k ∧ j < l.length := by simpa [Nat.lt_min] using hj
    have := h j hj'.1
    simpa [rd_T43, hj'.2] using this
theorem Town_l0 (n : Nat) (l : List S43) (hn : n ≤ 12) (hl : l.length ≤ 80) : ∀ (d i : Nat), i + d = l.length → PreOk n l i →
    Gives (fun k => pomaderef02_Town.l0 k n l (ints ((townO (l.take i)).take n)) i) (if l.all (arcOk n) then (ints ((townO l).take n), 0) else ([], 2))
  | 0, i, h, hp => Gives.now fun k => by
    obtain rfl : i = l.length := by omega
    simp only [pomaderef02_Town.l0]
    rw [if_neg (by omega), all_of_pre hp, List.take_length]
    rfl
  | d + 1, i, h, hp => by
    have hi : i < l.length := by omega
    have hsn := townO_snoc l i hi
    have hlt := pre_lt hp
    have ho := townO_len (l.take i)
    generalize townO (l.take i) = o at *
    cases hok : arcOk n (rd_T43 l i)
    · refine Gives.now fun k => ?_
      simp only [pomaderef02_Town.l0]
      rw [if_pos (by omega), if_pos (by omega), not_all hi hok]
      simp only [arcOk, Bool.and_eq_false_iff, decide_eq_false_iff_not] at hok
      split
      · rfl
      split
      · rfl
      split
      · rfl
      split
      · rfl
      · omega
    · have hrec := Town_l0 n l hn hl d (i + 1) (by omega) (hp.succ hok)
      refine Gives.step hrec fun k hk => ?_
      simp only [arcOk, Bool.and_eq_true, decide_eq_true_eq] at hok
      simp only [pomaderef02_Town.l0]
      rw [hsn, addArc] at hk
      generalize rd_T43 l (i : Int) = p at *
      obtain ⟨a, b⟩ := p
      simp only at hok hk ⊢
      obtain ⟨a, rfl⟩ := Int.eq_ofNat_of_zero_le hok.1.1.1
      obtain ⟨b, rfl⟩ := Int.eq_ofNat_of_zero_le hok.1.2
      have h62 : o.getD a 0 < 2 ^ 62 := Nat.lt_of_lt_of_le (hlt a) (Nat.pow_le_pow_right (by decide) (by omega))
      have hol : (ints (o.take n)).length = n := by rw [ints_length, List.length_take, ho]; omega
      rw [if_pos (by omega), if_pos (by omega), if_neg (by omega), if_neg (by omega), if_neg (by omega), if_neg (by omega), if_pos (by omega), if_pos (by omega), if_pos (by omega), wr_succ i (by omega), Int.toNat_natCast, town_step o n a b (by omega) (by omega) h62]
      exact hk
theorem Town_j0 (n : Nat) (l : List S43) (hn : n ≤ 12) : Gives (fun k => pomaderef02_Town.j0 k n l false) (if 80 < l.length then ([], 3) else if l.all (arcOk n) then (ints ((townO l).take n), 0) else ([], 2)) := by
  by_cases hl : 80 < l.length
  · rw [if_pos hl]
    refine Gives.now fun k => ?_
    simp only [pomaderef02_Town.j0]
    rw [if_neg (by simp), if_pos (by omega)]
  · rw [if_neg hl]
    refine (Town_l0 n l hn (by omega) l.length 0 (by omega) (fun j hj => absurd hj (by omega))).step fun k hk => ?_
    simp only [pomaderef02_Town.j0]
    rw [if_neg (by simp), if_neg (by omega), if_pos (by omega), if_pos (by omega)]
    have e : ints ((townO (l.take 0)).take n) = List.replicate ((n : Nat) : Int).toNat 0 := by
      rw [Int.toNat_natCast]
      have : n = 0 ∨ n = 1 ∨ n = 2 ∨ n = 3 ∨ n = 4 ∨ n = 5 ∨ n = 6 ∨ n = 7 ∨ n = 8 ∨ n = 9 ∨ n = 10 ∨ n = 11 ∨ n = 12 := by omega
      rcases this with rfl | rfl | rfl | rfl | rfl | rfl | rfl | rfl | rfl | rfl | rfl | rfl | rfl <;> rfl
    rw [← e]
    exact hk
def townL (n : Int) (l : List S43) : List Int := ints ((townO l).take n.toNat)
theorem Town_g (n : Int) (l : List S43) : Gives (fun k => pomaderef02_Town.f k n l) (if ofE n l = 0 then (townL n l, 0) else ([], ofE n l)) := by
  unfold pomaderef02_Town.f
  by_cases h1 : n < 1
  · have e : ofE n l = 2 := by unfold ofE; rw [if_pos (.inl h1)]
    rw [e, if_neg (by decide)]
    refine Gives.now fun k => ?_
    rw [if_pos h1]
    rfl
  by_cases h2 : 12 < n
  · have e : ofE n l = 2 := by unfold ofE; rw [if_pos (.inr h2)]
    rw [e, if_neg (by decide)]
    refine Gives.now fun k => ?_
    rw [if_neg h1, show decide (n > 12) = true from decide_eq_true h2]
    rfl
  have e : ofE n l = if 80 < l.length then 3 else if l.all (arcOk n) then 0 else 2 := by unfold ofE; rw [if_neg (by omega)]
  rw [e]
  obtain ⟨m, rfl⟩ : ∃ m : Nat, n = m := ⟨n.toNat, by omega⟩
  refine (Town_j0 m l (by omega)).map fun k hk => ?_
  rw [if_neg h1, show decide ((m : Int) > 12) = false from decide_eq_false h2, hk]
  by_cases h3 : 80 < l.length
  · simp [h3]
  · rw [if_neg h3, if_neg h3]
    cases l.all (arcOk m) <;> simp [townL]
theorem few_any (A B : Option Addr) (c d : Nat) (l : List S43) (xs : List Int) (w : World) (hA : Kd.C k43 w A l.length l) (hc : l.length ≤ c) (hB : Kd.C (Kd.int .i64) w B xs.length xs) (hd : xs.length ≤ d) :
    Calls Tryd.prog 4 #[.slice A l.length c, .slice B xs.length d] w fun e w' => e = .returned (.bool (decide (l.length ≤ 150) && decide (xs.length ≤ 50))) ∧ Below w.heap.size w w' := by
  have h : pomadelaw02_few.f l xs = some (decide (l.length ≤ 150) && decide (xs.length ≤ 50)) := by
    unfold pomadelaw02_few.f
    by_cases h : l.length ≤ 150
    · rw [if_pos (by omega), decide_eq_true h, Bool.true_and]
      congr 1
      rw [decide_eq_decide]; omega
    · rw [if_neg (by omega), decide_eq_false h]; rfl
  exact (pomadelaw02_few.calls A c l B d xs _ w hA hc hB hd h).mono fun e w' h => ⟨h.1, h.2.below⟩
theorem asc_below {n : Nat} {l : List Int} {k : Nat} (h : AscTo n l k) (h1 : ascAt n l k) : ∀ j, j < k → rd l j < rd l k := by
  suffices H : ∀ d j, j + d + 1 = k → rd l j < rd l k from fun j hj => H (k - j - 1) j (by omega)
  intro d
  induction d with
  | zero =>
    intro j hj
    have := h1.2.2 (by omega)
    rwa [show (k : Int) - 1 = (j : Int) by omega] at this
  | succ d ih =>
    intro j hj
    have h2 := ih (j + 1) (by omega)
    have h3 := (h (j + 1) (by omega)).2.2 (by omega)
    rw [show ((j + 1 : Nat) : Int) - 1 = (j : Int) by omega] at h3
    omega
theorem set_plus {n : Nat} {l : List Int} {k : Nat} (hk : k < l.length) (h : AscTo n l k) (h1 : ascAt n l k) (hn : n ≤ 12) :
    wrap64 (((setOf (l.take k) : Nat) : Int) + shl .i64 1 (rd l k)) = ((setOf (l.take (k + 1)) : Nat) : Int) := by
  obtain ⟨x, hx⟩ := Int.eq_ofNat_of_zero_le h1.1
  have hlt : setOf (l.take k) < 2 ^ x := by
    refine setOf_lt x l k (by omega) (fun j hj => ⟨(h j hj).1, ?_, (h j hj).2.2⟩)
    have := asc_below h h1 j hj
    omega
  have hx12 : x < 12 := by have := h1.2.1; omega
  rw [setOf_snoc l k hk, hx, shl1 x (by omega), Int.toNat_natCast]
  have e : setOf (l.take k) + 2 ^ x = setOf (l.take k) ||| 2 ^ x := by
    have := Nat.two_pow_add_eq_or_of_lt hlt 1
    rw [Nat.mul_one, Nat.or_comm] at this
    omega
  have hp : 2 ^ x ≤ 2 ^ 12 := Nat.pow_le_pow_right (by decide) (by omega)
  rw [← e]
  unfold wrap64
  omega
theorem Set_l0 (n : Nat) (l : List Int) (hn : n ≤ 12) (hl : l.length < 1000000) : ∀ (d i : Nat), i + d = l.length → AscTo n l i →
    Gives (fun k => pomaderef02_Set.l0 k n l (setOf (l.take i) : Nat) i) (if AscTo n l l.length then ((setOf l : Nat), true) else ((0 : Int), false))
  | 0, i, h, hp => Gives.now fun k => by
    obtain rfl : i = l.length := by omega
    simp only [pomaderef02_Set.l0]
    rw [if_neg (by omega), if_pos hp, List.take_length]
  | d + 1, i, h, hp => by
    by_cases ha : ascAt n l i
    · have hs := set_plus (by omega) hp ha hn
      refine (Set_l0 n l hn hl d (i + 1) (by omega) (hp.succ ha)).step fun k hk => ?_
      obtain ⟨h1, h2, h3⟩ := ha
      simp only [pomaderef02_Set.l0]
      rw [if_pos (by omega), if_pos (by omega), if_neg (by omega), if_neg (by omega), hs, wr_succ i (by omega)]
      by_cases h0 : (i : Int) > 0
      · have ew : wrap64 ((i : Int) - 1) = (i : Int) - 1 := by unfold wrap64; omega
        have := h3 (by omega)
        rw [if_pos h0, ew, if_pos (by omega), if_pos (by omega), if_neg (by omega), if_pos (by omega)]
        exact hk
      · rw [if_neg h0, if_pos (by omega)]
        exact hk
    · have hno : ¬ AscTo n l l.length := fun h' => ha (h' i (by omega))
      rw [if_neg hno]
      refine Gives.now fun k => ?_
      simp only [pomaderef02_Set.l0]
      rw [if_pos (by omega), if_pos (by omega)]
      by_cases h1 : rd l i < 0
      · rw [if_pos h1]
      · rw [if_neg h1]
        by_cases h2 : rd l i ≥ n
        · rw [if_pos h2]
        · rw [if_neg h2]
          have h0 : (i : Int) > 0 := by
            rcases Nat.eq_zero_or_pos i with h3 | h3
            · exact absurd ⟨by omega, by omega, fun h4 => by omega⟩ ha
            · omega
          have ew : wrap64 ((i : Int) - 1) = (i : Int) - 1 := by unfold wrap64; omega
          have h3 : rd l i ≤ rd l ((i : Int) - 1) := by
            apply Classical.byContradiction
            intro h4
            exact ha ⟨by omega, by omega, fun _ => by omega⟩
          rw [if_pos h0, ew, if_pos (by omega), if_pos (by omega), if_pos h3]
theorem Set_g (n : Nat) (l : List Int) (hn : n ≤ 12) (hl : l.length < 1000000) : Gives (fun k => pomaderef02_Set.f k n l) (if AscTo n l l.length then ((setOf l : Nat), true) else ((0 : Int), false)) :=
  Set_l0 n l hn hl l.length 0 (by omega) (fun j hj => by omega)
theorem valid_any (n : Int) (A : Option Addr) (c : Nat) (l : List S43) (w : World) (hr : Kd.C k43 w A l.length l) (hc : l.length ≤ c) :
    Calls Tryd.prog 5 #[.int .i64 n, .slice A l.length c] w fun e w' => e = .returned (.bool (ofE n l == 0)) ∧ Below w.heap.size w w' := by
  have hg : Gives (fun k => pomadelaw02_valid.f k n l) (ofE n l == 0) := (Town_g n l).map fun k hk => by
    simp only [pomadelaw02_valid.f]
    rw [hk, Option.bind_some]
    by_cases he : ofE n l = 0
    · rw [if_pos he, he]
    · rw [if_neg he]
  obtain ⟨k0, hk0⟩ := hg
  exact pomadelaw02_valid.calls k0 n A c l _ w hr hc (hk0 k0 (Nat.le_refl _))
end Go.Proofs.YtmobefgnkiboaaaDoor.Sh

namespace Go.Proofs.YtmobefgnkiboaaaDoor.Im
open Go.RowKit Go.Proofs.YtmobefgnkiboaaaDoorW.PrintWords Go.Proofs.YtmobefgnkiboaaaDoorW.PrintLast Go.Proofs.YtmobefgnkiboaaaDoorW.PrintMore
set_option linter.unusedVariables false
set_option linter.unusedSimpArgs false
theorem info3 : (Tryd.prog.info? 3).map (fun i => (i.zero, i.size, i.bytes)) = some (some (.int .i64 0), 1, 8) := by kernel_rfl
theorem info5 : (Tryd.prog.info? 5).map (fun i => (i.zero, i.size, i.bytes)) = some (some (.int .u8 0), 1, 1) := by kernel_rfl
theorem info9 : (Tryd.prog.info? 9).map (fun i => (i.zero, i.size, i.bytes)) = some (some (.string ⟨#[]⟩), 1, 16) := by kernel_rfl
def Blk (w : World) (g : Nat) (t : TypeId) (cs : Array Value) : Prop := w.heap[g]? = some (.cells cs t (0, 0))
section
variable {w w' : World} {g : Nat} {t : TypeId} {cs : Array Value}
theorem Blk.lt (h : Blk w g t cs) : g < w.heap.size := by
  rcases Nat.lt_or_ge g w.heap.size with hlt | hge
  · exact hlt
  · unfold Blk at h; rw [Array.getElem?_eq_none hge] at h; cases h
theorem Blk.cell (h : Blk w g t cs) (i : Nat) : w.cell? ⟨g, i, none⟩ = cs[i]? := cell_of_row w g i cs t (0, 0) h
theorem Blk.frozen (h : Blk w g t cs) (i : Nat) : w.frozen? ⟨g, i, none⟩ = false := by
  unfold Blk at h
  simp [World.frozen?, h]
theorem Blk.new (w : World) (t : TypeId) (cs : Array Value) : Blk (w.alloc (.cells cs t)) w.heap.size t cs := heap_alloc_new w _
theorem Blk.drew (h : Blk w g t cs) : Blk w.drew g t cs := h
theorem Blk.drewN (h : Blk w g t cs) (n : Nat) : Blk (w.drewN n) g t cs := h
theorem Blk.alloc (h : Blk w g t cs) (o : Obj) : Blk (w.alloc o) g t cs := (Below.heap_alloc w o g h.lt).trans h
theorem Blk.set_ (h : Blk w g t cs) (i : Nat) (u : Value) : Blk (w.setCell ⟨g, i, none⟩ u) g t (cs.setIfInBounds i u) := by
  unfold Blk at h ⊢
  simp [World.setCell, Array.getElem?_modify, h]
theorem Blk.far (h : Blk w g t cs) {p : Addr} (hp : g ≠ p.block) (u : Value) : Blk (w.setCell p u) g t cs := (Below.heap_setCell w p u g hp).trans h
theorem Blk.below {B : Nat} (h : Blk w g t cs) (hb : Below B w w') (hg : g < B) : Blk w' g t cs := (hb.block g hg).trans h
theorem Blk.later (h : Blk w g t cs) (hb : Below w.heap.size w w') : Blk w' g t cs := h.below hb h.lt
end
theorem wr62 (n : Int) (h0 : 0 ≤ n) (h1 : n < 2 ^ 62) : IntKind.i64.wrap n = n := by rw [IntKind.wrap_i64]; omega
theorem wr62' (n : Nat) (h1 : n < 2 ^ 62) : wrap64 n = n := by unfold wrap64; omega
theorem b_and (a b : Nat) (ha : a < 2 ^ 62) (hb : b < 2 ^ 62) : bits .and .i64 a b = ((a &&& b : Nat) : Int) :=
  (bits_nat .i64 62 (by decide) wr62 a b ha hb).1
theorem b_or (a b : Nat) (ha : a < 2 ^ 62) (hb : b < 2 ^ 62) : bits .or .i64 a b = ((a ||| b : Nat) : Int) :=
  (bits_nat .i64 62 (by decide) wr62 a b ha hb).2
def andN (a b : Nat) : Nat := a ^^^ (a &&& b)
theorem andN_bit (a b i : Nat) : (andN a b).testBit i = (a.testBit i && !b.testBit i) := by
  unfold andN
  rw [Nat.testBit_xor, Nat.testBit_and]
  cases a.testBit i <;> cases b.testBit i <;> rfl
theorem andN_lt (a b k : Nat) (ha : a < 2 ^ k) : andN a b < 2 ^ k := Nat.xor_lt_two_pow ha (Nat.lt_of_le_of_lt Nat.and_le_left ha)
theorem b_andN (a b : Nat) (ha : a < 2 ^ 62) (_hb : b < 2 ^ 62) : bits .andNot .i64 a b = ((andN a b : Nat) : Int) := by
  have key : (BitVec.ofNat 64 a &&& ~~~ BitVec.ofNat 64 b).toNat = andN a b := by
    apply Nat.eq_of_testBit_eq
    intro i
    rw [andN_bit, BitVec.testBit_toNat, BitVec.getLsbD_and, BitVec.getLsbD_not, BitVec.getLsbD_ofNat, BitVec.getLsbD_ofNat]
    by_cases h : i < 64
    · simp [h]
    · have : a.testBit i = false := Nat.testBit_lt_two_pow (Nat.lt_of_lt_of_le ha (Nat.pow_le_pow_right (by decide) (by omega)))
      simp [h, this]
  have hl : andN a b < 2 ^ 62 := andN_lt a b 62 ha
  have : bits .andNot .i64 a b = IntKind.i64.wrap ((BitVec.ofInt 64 (a : Int) &&& ~~~ BitVec.ofInt 64 (b : Int)).toNat : Int) := rfl
  rw [this, BitVec.ofInt_natCast, BitVec.ofInt_natCast, key]
  exact wr62 _ (Int.natCast_nonneg _) (by exact_mod_cast hl)
theorem shr_nat (s i : Nat) : ((s : Int) / 2 ^ i) = ((s >>> i : Nat) : Int) := by
  rw [Nat.shiftRight_eq_div_pow]; simp
theorem shr_lt (s i : Nat) (h : s < 2 ^ 62) : s >>> i < 2 ^ 62 := by
  rw [Nat.shiftRight_eq_div_pow]
  exact Nat.lt_of_le_of_lt (Nat.div_le_self _ _) h
theorem bit_one (s i : Nat) : (s >>> i) &&& 1 = if s.testBit i then 1 else 0 := by
  rw [Nat.and_comm, Nat.one_and_eq_mod_two, Nat.testBit, Nat.one_and_eq_mod_two]
  rcases Nat.mod_two_eq_zero_or_one (s >>> i) with h | h <;> simp [h]
theorem b_bit (s i : Nat) (h : s < 2 ^ 62) : bits .and .i64 ((s : Int) / 2 ^ i) 1 = if s.testBit i then 1 else 0 := by
  rw [shr_nat, show (1 : Int) = ((1 : Nat) : Int) from rfl, b_and _ _ (shr_lt s i h) (by decide), bit_one]
  split <;> rfl
theorem b_bit0 (s i : Nat) (h : s < 2 ^ 62) : (bits .and .i64 ((s : Int) / 2 ^ i) 1 == 0) = !s.testBit i := by
  rw [b_bit s i h]; cases s.testBit i <;> rfl
theorem b_bit1 (s i : Nat) (h : s < 2 ^ 62) : (bits .and .i64 ((s : Int) / 2 ^ i) 1 == 1) = s.testBit i := by
  rw [b_bit s i h]; cases s.testBit i <;> rfl
theorem two_pow_nat (i : Nat) : ((2 : Int) ^ i) = ((2 ^ i : Nat) : Int) := by simp
theorem wr_pow (i : Nat) (h : i < 62) : wrap64 ((2 : Int) ^ i) = ((2 ^ i : Nat) : Int) := by
  rw [two_pow_nat]; exact wr62' _ (Nat.pow_lt_pow_right (by decide) h)
theorem b_and0 (a b : Nat) (ha : a < 2 ^ 62) (hb : b < 2 ^ 62) : (bits .and .i64 a b == 0) = (a &&& b == 0) := by
  rw [b_and a b ha hb]
  by_cases h : a &&& b = 0
  · simp [h]
  · rw [beq_eq_false_iff_ne.2 h, beq_eq_false_iff_ne.2 (by omega)]
theorem rd_map (o : List Nat) (i : Nat) : rd (o.map fun x : Nat => (x : Int)) i = ((o.getD i 0 : Nat) : Int) := by
  unfold rd
  rw [Int.toNat_natCast]
  simp only [List.getD_eq_getElem?_getD, List.getElem?_map]
  cases o[i]? <;> rfl
def ints (o : List Nat) : List Int := o.map fun x : Nat => (x : Int)
theorem ints_length (o : List Nat) : (ints o).length = o.length := by simp [ints]
theorem rd_ints (o : List Nat) (i : Nat) : rd (ints o) i = ((o.getD i 0 : Nat) : Int) := rd_map o i
section
variable {P : Program} {ops : Array Oper} {Q : Exit → Act → World → Prop} {md : Region.Mode} {S : World → Prop}
theorem ro_call {i : Nat} {o : Oper} {f : FuncId} {args : Array Value} {a : Act} {w : World} {K : Act → World → Prop} (hi : ops[i]? = some o)
    (hw : Region.wanted o (yielded ops a.tmps) = true) (hr : (execOp a.eval o).run P w = .ok (.enter f args) w)
    (hc : Calls P f args w fun e w' => ∃ v, e = .returned v ∧ K (a.put o.dst v) w') : wpOp P ops Q i K a w := by
  unfold wpOp
  simp only [hi, hw, if_true]
  refine .inl ?_
  unfold Oper.wp
  rw [hr]
  refine hc.mono ?_
  rintro e w' ⟨v, rfl, h⟩
  exact h
theorem ro_val {i : Nat} {o : Oper} {v : Value} {a : Act} {w w' : World} {K : Act → World → Prop} (hi : ops[i]? = some o)
    (hw : Region.wanted o (yielded ops a.tmps) = true) (hr : (execOp a.eval o).run P w = .ok (.value v) w')
    (hc : K (a.put o.dst v) w') : wpOp P ops Q i K a w := by
  unfold wpOp
  simp only [hi, hw, if_true]
  refine .inl ?_
  unfold Oper.wp
  rw [hr]
  exact hc
theorem ro_skip {i : Nat} {o : Oper} {a : Act} {w w' : World} {K : Act → World → Prop} (hi : ops[i]? = some o)
    (hw : Region.wanted o (yielded ops a.tmps) = true) (hr : (execOp a.eval o).run P w = .ok .skip w')
    (hc : K (a.put o.dst undef) w') : wpOp P ops Q i K a w := by
  unfold wpOp
  simp only [hi, hw, if_true]
  refine .inl ?_
  unfold Oper.wp
  rw [hr]
  exact hc
theorem ro_one {i : Nat} {fuel : Nat} {listed : Array Bool} {a : Act} {w : World} (hr : Region.ready md ops listed = [i])
    (h : wpOp P ops Q i (fun a' w' => S w' ∧ wpAnyH P md ops Q S fuel (listed.setIfInBounds i true) a' w') a w) : wpAnyH P md ops Q S (fuel + 1) listed a w :=
  wpAnyH_all hr (by simp) fun j hj => by
    obtain rfl : j = i := by simpa using hj
    exact h
theorem yi_any {o : Oper} {v : Value} {a : Act} (hw : Region.wanted o (yielded ops a.tmps) = true) (h : ∀ w, (execOp a.eval o).run P w = .ok (.value v) w) : YieldsIf P ops S o v a := .inl ⟨hw, fun w _ => h w⟩
theorem yi_at {o : Oper} {v : Value} {a : Act} (hw : Region.wanted o (yielded ops a.tmps) = true) (h : ∀ w, S w → (execOp a.eval o).run P w = .ok (.value v) w) : YieldsIf P ops S o v a := .inl ⟨hw, h⟩
end
theorem wp_still_tail {P : Program} {id : Nat} {Q : Exit → Act → World → Prop} {a : Act} {w : World} {l : List Oper} (n : Nat) (hm : P.follows .mixedOrders = true) (hB : Region.lexTailB .any l.toArray n = true)
    (h : wpStill P l.toArray w.drew (fun a' => wpList P l.toArray Q (l.drop n) a' w.drew) (l.take n) a) : (Code.region id l.toArray true).wp P Q a w := wp_region_still_tail n hm hB h
theorem Blk.new' {w : World} {g : Nat} {t : TypeId} {cs : Array Value} (h : g = w.heap.size) : Blk (w.alloc (.cells cs t)) g t cs := h ▸ Blk.new w t cs
theorem gb_trans {w w1 w2 : World} {row : Option Nat} (h : w.grownBy w1 row) (k : w1.grownBy w2 row) : w.grownBy w2 row :=
  ⟨k.os.trans h.os, k.tape.trans h.tape, k.output.trans h.output, Nat.le_trans h.size k.size, fun i hi hne => (k.block i (Nat.lt_of_lt_of_le hi h.size) hne).trans (h.block i hi hne)⟩
theorem gb_below {w w1 : World} {row : Option Nat} (h : Below w.heap.size w w1) : w.grownBy w1 row := ⟨h.os, h.tape, h.output, h.size, fun i hi _ => h.block i hi⟩
theorem below_gb {w w1 : World} (h : w.grownBy w1 none) : Below w.heap.size w w1 := ⟨h.os, h.tape, h.output, h.size, fun i hi => h.block i hi (by simp)⟩
theorem gb_drew (w : World) (row : Option Nat) : w.grownBy w.drew row := gb_below (below_drew (Below.refl _ _))
theorem gb_drewN (w : World) (n : Nat) (row : Option Nat) : w.grownBy (w.drewN n) row := gb_below (pw_below_drewN (Below.refl _ _) n)
theorem gb_set (w : World) (p : Addr) (v : Value) : w.grownBy (w.setCell p v) (some p.block) :=
  ⟨rfl, rfl, rfl, by simp [World.setCell], fun i hi hne => Below.heap_setCell w p v i (fun e => hne (by rw [e]))⟩
theorem Blk.gb {w w' : World} {g : Nat} {t : TypeId} {cs : Array Value} {row : Option Nat} (h : Blk w g t cs) (hb : w.grownBy w' row) (hg : some g ≠ row) : Blk w' g t cs := (hb.block g h.lt hg).trans h
theorem Blk.row {w : World} {g : Nat} {t : TypeId} {old : Array Value} (h : Blk w g t old) (cs : Array Value) : Blk (w.setRow g cs) g t cs := setRow_heap w g old cs t (0, 0) h
theorem gb_row (w : World) (g : Nat) (cs : Array Value) : w.grownBy (w.setRow g cs) (some g) :=
  ⟨rfl, rfl, rfl, by simp [World.setRow], fun i _ hne => setRow_other w g i cs (fun e => hne (by rw [e]))⟩
theorem gb_below_new {w w1 w2 : World} {row : Option Nat} (h : Below w.heap.size w w1) (k : w1.grownBy w2 row) (hr : ∀ g, row = some g → w.heap.size ≤ g) : Below w.heap.size w w2 := h.grown k h.size hr
def memF (p : Nat) : Nat → Nat → List Nat
  | 0, _ => []
  | d + 1, i => if p.testBit i then i :: memF p d (i + 1) else memF p d (i + 1)
def mem12 (p i : Nat) : List Nat := memF p (12 - i) i
theorem mem12_step (p i : Nat) (h : i < 12) : mem12 p i = if p.testBit i then i :: mem12 p (i + 1) else mem12 p (i + 1) := by
  unfold mem12
  rw [show 12 - i = (12 - (i + 1)) + 1 by omega]
  rfl
theorem memF_none (p : Nat) : ∀ d i, p >>> i = 0 → memF p d i = []
  | 0, _, _ => rfl
  | d + 1, i, h => by
    have ht : p.testBit i = false := by simp [Nat.testBit, h]
    have hn : p >>> (i + 1) = 0 := by rw [Nat.shiftRight_add, h]; rfl
    rw [memF, ht, memF_none p d (i + 1) hn]
    rfl
theorem mem12_none (p i : Nat) (h : p >>> i = 0) : mem12 p i = [] := memF_none p _ i h
theorem shr12 (p i : Nat) (hp : p < 4096) (h : p >>> i ≠ 0) : i < 12 := by
  rcases Nat.lt_or_ge i 12 with h' | h'
  · exact h'
  · exfalso
    apply h
    rw [Nat.shiftRight_eq_div_pow]
    apply Nat.div_eq_of_lt
    exact Nat.lt_of_lt_of_le hp (Nat.pow_le_pow_right (by decide) h' : 2 ^ 12 ≤ 2 ^ i)
section
variable {P : Program} {ops : Array Oper} {Q : Exit → Act → World → Prop} {md : Region.Mode} {S : World → Prop}
def pt (a : Act) (d : Nat) (v : Value) : Act := ⟨a.tmps.setIfInBounds d v, a.defers⟩
theorem pt_lit (l : List Value) (ds : List Deferred) (d : Nat) (v : Value) : pt ⟨l.toArray, ds⟩ d v = ⟨(l.set d v).toArray, ds⟩ := by simp [pt]
theorem pt_put {a : Act} {o : Oper} {d : Nat} {v : Value} (h : o.dst = some d) : a.put o.dst v = pt a d v := by rw [h]; rfl
theorem tk {i : Nat} (d : Nat) {oi : Oper} {v : Value} {fuel : Nat} {listed : Array Bool} {a : Act} {w : World} (hi : ops[i]? = some oi) (hd : oi.dst = some d)
    (hs : Region.noSelect ops = true) (hf : Region.free md ops listed i = true) (hr : (Region.ready md ops listed).contains i = true)
    (hQ : ∀ c a w, Q (.panic c) (a.put oi.dst v) w → Q (.panic c) a w) (hw : Region.wanted oi (yielded ops a.tmps) = true) (hy : ∀ w, S w → (execOp a.eval oi).run P w = .ok (.value v) w) (hS : S w)
    (h : wpAnyH P md ops Q S fuel (listed.setIfInBounds i true) (pt a d v) w) : wpAnyH P md ops Q S (fuel + 1) listed a w :=
  wpAnyH_take hi hs hf hr hQ (.inl ⟨hw, hy⟩) hS (by rw [pt_put hd]; exact h)
theorem rc {i : Nat} (d : Nat) {o : Oper} {fuel : Nat} {listed : Array Bool} {f : FuncId} {args : Array Value} {a : Act} {w : World} (hr : Region.ready md ops listed = [i]) (hi : ops[i]? = some o) (hd : o.dst = some d)
    (hw : Region.wanted o (yielded ops a.tmps) = true) (hx : (execOp a.eval o).run P w = .ok (.enter f args) w)
    (hc : Calls P f args w fun e w' => ∃ v, e = .returned v ∧ S w' ∧ wpAnyH P md ops Q S fuel (listed.setIfInBounds i true) (pt a d v) w') : wpAnyH P md ops Q S (fuel + 1) listed a w :=
  ro_one hr (ro_call hi hw hx (hc.mono fun _ _ ⟨v, h1, h2, h3⟩ => ⟨v, h1, h2, by rw [pt_put hd]; exact h3⟩))
theorem rv {i : Nat} (d : Nat) {o : Oper} {fuel : Nat} {listed : Array Bool} {v : Value} {a : Act} {w w' : World} (hr : Region.ready md ops listed = [i]) (hi : ops[i]? = some o) (hd : o.dst = some d)
    (hw : Region.wanted o (yielded ops a.tmps) = true) (hx : (execOp a.eval o).run P w = .ok (.value v) w')
    (hS : S w') (h : wpAnyH P md ops Q S fuel (listed.setIfInBounds i true) (pt a d v) w') : wpAnyH P md ops Q S (fuel + 1) listed a w :=
  ro_one hr (ro_val hi hw hx ⟨hS, by rw [pt_put hd]; exact h⟩)
end
theorem shr_i64 (s i : Nat) (h : i ≤ 62) : shr .i64 (s : Int) (i : Int) = ((s >>> i : Nat) : Int) := by
  unfold shr
  rw [Int.toNat_natCast, Nat.min_eq_left (by show i ≤ 64; omega), shr_nat]
theorem b_bitshr (s i : Nat) (h : s < 2 ^ 62) : bits .and .i64 ((s >>> i : Nat) : Int) 1 = if s.testBit i then 1 else 0 := by
  rw [← shr_nat]; exact b_bit s i h
theorem wr_succ (i : Nat) (h : i < 1000000) : wrap64 ((i : Int) + 1) = ((i + 1 : Nat) : Int) := by unfold wrap64; omega
def memL (s : Nat) : List Nat := mem12 s 0
theorem C_cells {w : World} {b : Addr} {l : List Int} (h : Kd.C (Kd.int .i64) w (some b) l.length l) : ∀ j u, (nums .i64 l)[j]? = some u → w.cell? (b.add j) = some u := by
  intro j u hu
  have hj : j < l.length := by
    rcases Nat.lt_or_ge j l.length with h' | h'
    · exact h'
    · rw [List.getElem?_eq_none (by rw [nums_length]; exact h')] at hu; cases hu
  obtain ⟨ad, e, hc⟩ := Kd.at_int h (j : Int) (by omega) (by omega)
  cases e
  rw [Int.toNat_natCast] at hc
  rw [hc, ← hu]
  simp [nums, rd, hj]
theorem C_none {w : World} {l : List Int} (h : Kd.C (Kd.int .i64) w none l.length l) : l = [] := by
  rcases Nat.eq_zero_or_pos l.length with h0 | h0
  · exact List.eq_nil_of_length_eq_zero h0
  · obtain ⟨ad, e, _⟩ := Kd.at_int h 0 (by omega) (by omega)
    cases e
theorem C_some {w : World} {A : Option Addr} {l : List Int} (h : Kd.C (Kd.int .i64) w A l.length l) (h0 : 0 < l.length) : ∃ ad, A = some ad := by
  obtain ⟨ad, e, _⟩ := Kd.at_int h 0 (by omega) (by omega)
  exact ⟨ad, e⟩
theorem run_app1 (w : World) (A : Option Addr) (l : List Int) (g : Nat) (j : Int) (hr : Kd.C (Kd.int .i64) w A l.length l) (hg : w.cell? ⟨g, 0, none⟩ = some (.int .i64 j)) (hl : l.length < 1000000)
    (hA : A = none → l.length = 0) :
    ∃ v' w', (Builtin.append_ #[23, 23] 23 #[.slice A l.length l.length, .slice (some ⟨g, 0, none⟩) 1 1]).run Tryd.prog w = .ok v' w' ∧ Kd.R (Kd.int .i64) 3 w' w.heap.size (fun _ => True) v' (l ++ [j]) ∧ Below w.heap.size w w' := by
  obtain ⟨i0, hi, hzz⟩ := Option.map_eq_some_iff.1 info3
  simp only [Prod.mk.injEq] at hzz
  obtain ⟨hz0, hz1, hz2⟩ := hzz
  have hn : ∀ q u, [Value.int .i64 j][q]? = some u → w.cell? ((⟨g, 0, none⟩ : Addr).add q) = some u := by
    intro q u hu
    match q, hu with
    | 0, hu => simp at hu; subst hu; simpa [Addr.add] using hg
  have one : ∀ u ∈ [Value.int IntKind.i64 j], u.oneCell' = true := by intro u hu; simp at hu; subst hu; rfl
  have fin : ∀ v' w', w'.ownsRow w.heap.size 3 1 v' (l.length + 1) (nums .i64 l ++ [.int .i64 j]) → Kd.R (Kd.int .i64) 3 w' w.heap.size (fun _ => True) v' (l ++ [j]) := by
    intro v' w' h
    refine Kd.R_of_own ?_ (fun _ _ => trivial)
    have e : encs (Value.int .i64) (l ++ [j]) = nums .i64 l ++ [.int .i64 j] := by simp [encs, nums]
    rw [e, List.length_append]
    exact h
  cases A with
  | some b =>
    obtain ⟨v', w', hrun, r1, r2⟩ := run_append_arg_grows (P := Tryd.prog) w 23 23 3 i0 _ 1 8 Tryd.underlying23 hi hz0 hz1 hz2 rfl (by decide) b l.length l.length (nums .i64 l) (by simp [nums_length]) (C_cells hr) ⟨g, 0, none⟩ 1 1 [.int .i64 j] rfl hn (by omega) (by unfold maxLen; omega) (by omega)
    exact ⟨v', w', hrun, fin v' w' r1, below_gb r2⟩
  | none =>
    obtain rfl := C_none hr
    obtain ⟨v', w', hrun, r1, r2, _⟩ := run_append_own (P := Tryd.prog) w w.heap.size 23 23 3 i0 _ 1 8 Tryd.underlying23 hi hz0 hz1 hz2 rfl (by decide) (.slice none 0 0) 0 [] (World.ownsRow_nil w _ 3 1) ⟨g, 0, none⟩ 1 1 [.int .i64 j] rfl hn one (by unfold maxLen; omega) (by omega) (Nat.le_refl _)
    exact ⟨v', w', hrun, fin v' w' r1, below_gb r2⟩
theorem add_zero (b : Addr) : b.add 0 = b := by unfold Addr.add; simp
theorem run_slice3 (w : World) (A : Option Addr) (n c : Nat) (hc : n ≤ c) :
    (Instr.sliceAt 23 (.slice A n c) none (some (.int .i64 (n : Int))) (some (.int .i64 (n : Int)))).run Tryd.prog w = .ok (.slice A n n) w := by
  have hu : Tryd.prog.underlying 23 = some (.slice (Tryd.prog.elem 23)) := by kernel_rfl
  rw [run_sliceAt_slice w _ _ _ _ _ hu, run_slice_hm w 23 A n c hu .i64 .i64 (n : Int) (n : Int) (by omega) (by omega) (by omega)]
  have hs : (sizeOf (Tryd.prog.elem 23)).run Tryd.prog w = .ok 1 w := by kernel_rfl
  rw [hs]
  simp only [Result.andThen_ok, sliced, Int.toNat_natCast]
  cases A with
  | none => simp
  | some b => simp [add_zero]
theorem ex_slice3 {a : Act} {o : Oper} {x y z : Operand} (ho : o.op = .slice 23 x none (some y) (some z)) (w : World) (A : Option Addr) (n c : Nat) (hx : a.eval x = .slice A n c) (hy : a.eval y = .int .i64 n) (hz : a.eval z = .int .i64 n) (hc : n ≤ c) :
    (execOp a.eval o).run Tryd.prog w = .ok (.value (.slice A n n)) w := by
  unfold execOp
  simp [ho, hx, hy, hz, run_slice3 w A n c hc, Result.andThen]
section
variable {ops : Array Oper} {Q : Exit → Act → World → Prop} {md : Region.Mode} {S : World → Prop}
theorem ex_app1 {a : Act} {o : Oper} {s x : Operand} (ho : o.op = .call { callee := .builtin .append, args := #[s, x], argTypes := #[23, 23] }) (ht : o.type = 23) (w : World) (A : Option Addr) (l : List Int) (g : Nat) (j : Int)
    (hs : a.eval s = .slice A l.length l.length) (hx : a.eval x = .slice (some ⟨g, 0, none⟩) 1 1) (hr : Kd.C (Kd.int .i64) w A l.length l) (hg : w.cell? ⟨g, 0, none⟩ = some (.int .i64 j)) (hl : l.length < 1000000) (hA : A = none → l.length = 0) :
    ∃ v' w', (execOp a.eval o).run Tryd.prog w = .ok (.value v') w' ∧ Kd.R (Kd.int .i64) 3 w' w.heap.size (fun _ => True) v' (l ++ [j]) ∧ Below w.heap.size w w' := by
  obtain ⟨v', w', h1, h2, h3⟩ := run_app1 w A l g j hr hg hl hA
  refine ⟨v', w', ?_, h2, h3⟩
  unfold execOp
  simp [ho, ht, resolve, invoke, builtin, hs, hx, h1, Result.andThen]
theorem r_app1 {i : Nat} (d : Nat) {o : Oper} {fuel : Nat} {listed : Array Bool} {a : Act} {w : World} (hrd : Region.ready md ops listed = [i]) (hi : ops[i]? = some o) (hd : o.dst = some d)
    (hw : Region.wanted o (yielded ops a.tmps) = true) {s x : Operand} (ho : o.op = .call { callee := .builtin .append, args := #[s, x], argTypes := #[23, 23] }) (ht : o.type = 23) (A : Option Addr) (l : List Int) (g : Nat) (j : Int)
    (hs : a.eval s = .slice A l.length l.length) (hx : a.eval x = .slice (some ⟨g, 0, none⟩) 1 1) (hr : Kd.C (Kd.int .i64) w A l.length l) (hg : w.cell? ⟨g, 0, none⟩ = some (.int .i64 j)) (hl : l.length < 1000000) (hA : A = none → l.length = 0)
    (h : ∀ v' w', Kd.R (Kd.int .i64) 3 w' w.heap.size (fun _ => True) v' (l ++ [j]) → Below w.heap.size w w' → S w' ∧ wpAnyH Tryd.prog md ops Q S fuel (listed.setIfInBounds i true) (pt a d v') w') : wpAnyH Tryd.prog md ops Q S (fuel + 1) listed a w := by
  obtain ⟨v', w', h1, h2, h3⟩ := ex_app1 (a := a) ho ht w A l g j hs hx hr hg hl hA
  exact rv d hrd hi hd hw h1 (h v' w' h2 h3).1 (h v' w' h2 h3).2
theorem l_slice3 {rest : List Oper} {o : Oper} {a : Act} {w : World} (hgd : o.guard = none) {x y z : Operand} (ho : o.op = .slice 23 x none (some y) (some z)) (A : Option Addr) (n c : Nat) (hx : a.eval x = .slice A n c) (hy : a.eval y = .int .i64 n) (hz : a.eval z = .int .i64 n) (hc : n ≤ c)
    (h : wpList Tryd.prog ops Q rest (a.put o.dst (.slice A n n)) w) : wpList Tryd.prog ops Q (o :: rest) a w := by
  refine wpList_plain hgd fun K hK => ?_
  unfold Oper.wp
  rw [ex_slice3 ho w A n c hx hy hz hc]
  exact hK _ _ h
theorem l_app1 {rest : List Oper} {o : Oper} {a : Act} {w : World} (hgd : o.guard = none) {s x : Operand} (ho : o.op = .call { callee := .builtin .append, args := #[s, x], argTypes := #[23, 23] }) (ht : o.type = 23) (A : Option Addr) (l : List Int) (g : Nat) (j : Int)
    (hs : a.eval s = .slice A l.length l.length) (hx : a.eval x = .slice (some ⟨g, 0, none⟩) 1 1) (hr : Kd.C (Kd.int .i64) w A l.length l) (hg : w.cell? ⟨g, 0, none⟩ = some (.int .i64 j)) (hl : l.length < 1000000) (hA : A = none → l.length = 0)
    (h : ∀ v' w', Kd.R (Kd.int .i64) 3 w' w.heap.size (fun _ => True) v' (l ++ [j]) → Below w.heap.size w w' → wpList Tryd.prog ops Q rest (a.put o.dst v') w') : wpList Tryd.prog ops Q (o :: rest) a w := by
  obtain ⟨v', w', h1, h2, h3⟩ := ex_app1 (a := a) ho ht w A l g j hs hx hr hg hl hA
  refine wpList_plain hgd fun K hK => ?_
  unfold Oper.wp
  rw [h1]
  exact hK _ _ (h v' w' h2 h3)
end
end Go.Proofs.YtmobefgnkiboaaaDoor.Im

namespace Go.Proofs.YtmobefgnkiboaaaDoor.Tr
set_option linter.unusedVariables false
inductive Op where
  | and
  | or
  | eq
  deriving DecidableEq
inductive Fm where
  | con (b : Bool)
  | lt (i : Nat)
  | neg (f : Fm)
  | bin (k : Op) (l r : Fm)
  deriving DecidableEq
abbrev T3 := Option Bool
def byte3 : T3 → UInt8
  | none => 63
  | some false => 48
  | some true => 49
def opByte : Op → UInt8
  | .and => 38
  | .or => 124
  | .eq => 61
def opOf (b : UInt8) : Option Op := if b = 38 then some .and else if b = 124 then some .or else if b = 61 then some .eq else none
theorem opOf_some {b : UInt8} {k : Op} (h : opOf b = some k) : b = opByte k := by
  unfold opOf at h
  split at h
  · cases h; assumption
  · split at h
    · cases h; assumption
    · split at h
      · cases h; assumption
      · cases h
def not3 : T3 → T3
  | none => none
  | some b => some (!b)
def and3 (a b : T3) : T3 := if a = some false ∨ b = some false then some false else if a = some true ∧ b = some true then some true else none
def or3 (a b : T3) : T3 := if a = some true ∨ b = some true then some true else if a = some false ∧ b = some false then some false else none
def eq3 (a b : T3) : T3 := if a = none ∨ b = none then none else if a = b then some true else some false
def op3 : Op → T3 → T3 → T3
  | .and => and3
  | .or => or3
  | .eq => eq3
def ev (ρ : Nat → T3) : Fm → T3
  | .con b => some b
  | .lt i => ρ i
  | .neg f => not3 (ev ρ f)
  | .bin k l r => op3 k (ev ρ l) (ev ρ r)
def Fm.low (n : Nat) : Fm → Prop
  | .con _ => True
  | .lt i => i < n
  | .neg f => f.low n
  | .bin _ l r => l.low n ∧ r.low n
def Fm.deep : Fm → Nat
  | .con _ => 0
  | .lt _ => 0
  | .neg f => f.deep + 1
  | .bin _ l r => max l.deep r.deep + 1
def getV (v : List T3) (i : Nat) : T3 := v.getD i none
def nextV (fs : List Fm) (v : List T3) : List T3 := fs.map (ev (getV v))
theorem nextV_len (fs : List Fm) (v : List T3) : (nextV fs v).length = fs.length := List.length_map _
def rdF (n : Nat) : Nat → List UInt8 → Option (Fm × List UInt8)
  | 0, _ => none
  | _ + 1, [] => none
  | k + 1, c :: t =>
    if c = 48 then some (.con false, t)
    else if c = 49 then some (.con true, t)
    else if 97 ≤ c.toNat ∧ c.toNat - 97 < n then some (.lt (c.toNat - 97), t)
    else if c = 33 then
      match rdF n k t with
      | none => none
      | some (f, r) => some (.neg f, r)
    else if c = 40 then
      match rdF n k t with
      | none => none
      | some (_, []) => none
      | some (l, o :: t2) =>
        match opOf o with
        | none => none
        | some op =>
          match rdF n k t2 with
          | none => none
          | some (_, []) => none
          | some (r, e :: t3) => if e = 41 then some (.bin op l r, t3) else none
    else none
theorem rd_spec (n : Nat) : ∀ (k : Nat) (s : List UInt8) (f : Fm) (r : List UInt8), rdF n k s = some (f, r) → f.low n ∧ ∃ p, s = p ++ r ∧ p ≠ [] ∧ f.deep < p.length
  | 0, s, f, r, h => by cases h
  | k + 1, [], f, r, h => by cases h
  | k + 1, c :: t, f, r, h => by
    unfold rdF at h
    split at h
    · cases h; exact ⟨trivial, [c], rfl, by simp, by simp [Fm.deep]⟩
    split at h
    · cases h; exact ⟨trivial, [c], rfl, by simp, by simp [Fm.deep]⟩
    split at h
    · rename_i hc; cases h; exact ⟨hc.2, [c], rfl, by simp, by simp [Fm.deep]⟩
    split at h
    · split at h
      · cases h
      · rename_i g u hg
        cases h
        obtain ⟨h1, p, rfl, hp, hd⟩ := rd_spec n k _ _ _ hg
        exact ⟨h1, c :: p, rfl, by simp, by simp [Fm.deep]; omega⟩
    split at h
    · split at h
      · cases h
      · cases h
      · rename_i l o t2 hl
        split at h
        · cases h
        · rename_i op hop
          split at h
          · cases h
          · cases h
          · rename_i r' e t3 hr
            split at h
            · cases h
              obtain ⟨h1, p, rfl, hp, hd⟩ := rd_spec n k _ _ _ hl
              obtain ⟨h2, q, rfl, hq, hd2⟩ := rd_spec n k _ _ _ hr
              exact ⟨⟨h1, h2⟩, c :: (p ++ o :: (q ++ [e])), by simp, by simp, by simp [Fm.deep]; omega⟩
            · cases h
    · cases h
def parseO (n : Nat) (s : List UInt8) : Option Fm :=
  match rdF n (s.length + 1) s with
  | some (f, []) => some f
  | _ => none
theorem parse_low {n : Nat} {s : List UInt8} {f : Fm} (h : parseO n s = some f) : f.low n := by
  unfold parseO at h
  split at h
  · rename_i g hg; cases h; exact (rd_spec n _ _ _ _ hg).1
  · cases h
def parseE (n : Nat) (s : List UInt8) : Int := if 40 < s.length then 3 else if (parseO n s).isNone then 5 else 0
def firstE (n : Nat) : List (List UInt8) → Int
  | [] => 0
  | s :: l => if parseE n s = 0 then firstE n l else parseE n s
def sysE (l : List (List UInt8)) : Int := if 10 < l.length then 3 else if l.length = 0 then 2 else firstE l.length l
def sysF (l : List (List UInt8)) : List Fm := l.map fun s => (parseO l.length s).getD (.con false)
theorem sysF_len (l : List (List UInt8)) : (sysF l).length = l.length := List.length_map _
theorem firstE_ok {n : Nat} : ∀ {l : List (List UInt8)}, firstE n l = 0 → ∀ s ∈ l, parseE n s = 0
  | [], _, s, hs => by cases hs
  | t :: l, h, s, hs => by
    unfold firstE at h
    split at h
    · rename_i ht
      rcases List.mem_cons.1 hs with rfl | hs
      · exact ht
      · exact firstE_ok h s hs
    · rename_i ht; exact absurd h ht
theorem parseE_ok {n : Nat} {s : List UInt8} (h : parseE n s = 0) : s.length ≤ 40 ∧ ∃ f, parseO n s = some f := by
  unfold parseE at h
  split at h
  · cases h
  · split at h
    · cases h
    · rename_i h1 h2
      refine ⟨by omega, ?_⟩
      cases hp : parseO n s with
      | none => rw [hp] at h2; exact absurd rfl h2
      | some f => exact ⟨f, rfl⟩
structure Sys (n : Nat) (fs : List Fm) : Prop where
  len : fs.length = n
  pos : 0 < n
  n10 : n ≤ 10
  low : ∀ f ∈ fs, f.low n
theorem sys_ok {l : List (List UInt8)} (h : sysE l = 0) : Sys l.length (sysF l) := by
  unfold sysE at h
  split at h
  · cases h
  · split at h
    · cases h
    · refine ⟨sysF_len l, by omega, by omega, ?_⟩
      intro f hf
      obtain ⟨s, hs, rfl⟩ := List.mem_map.1 hf
      obtain ⟨_, g, hg⟩ := parseE_ok (firstE_ok h s hs)
      rw [hg]
      exact parse_low hg
def valsB (B : List T3) : Nat → List (List T3)
  | 0 => [[]]
  | n + 1 => B.flatMap fun c => (valsB B n).map (c :: ·)
theorem mem_valsB {B : List T3} : ∀ {n : Nat} {v : List T3}, v ∈ valsB B n ↔ v.length = n ∧ ∀ x ∈ v, x ∈ B
  | 0, v => by
    unfold valsB
    constructor
    · intro h; rw [List.mem_singleton] at h; subst h; exact ⟨rfl, by simp⟩
    · rintro ⟨h, _⟩; rw [List.length_eq_zero_iff] at h; subst h; simp
  | n + 1, v => by
    unfold valsB
    simp only [List.mem_flatMap, List.mem_map]
    constructor
    · rintro ⟨c, hc, w, hw, rfl⟩
      obtain ⟨h1, h2⟩ := mem_valsB.1 hw
      exact ⟨by simp [h1], by simpa using ⟨hc, h2⟩⟩
    · rintro ⟨h1, h2⟩
      match v, h1, h2 with
      | c :: w, h1, h2 => exact ⟨c, h2 c (by simp), w, mem_valsB.2 ⟨by simpa using h1, fun x hx => h2 x (by simp [hx])⟩, rfl⟩
def base2 : List T3 := [some false, some true]
def wrB (B : List T3) : Nat → Nat → List T3
  | 0, _ => []
  | n + 1, x => wrB B n (x / B.length) ++ [B.getD (x % B.length) none]
theorem wrB_len (B : List T3) : ∀ (n x : Nat), (wrB B n x).length = n
  | 0, _ => rfl
  | n + 1, x => by unfold wrB; simp [wrB_len B n]
theorem wrB_front {B : List T3} (hB : 0 < B.length) : ∀ (n c x : Nat), c < B.length → x < B.length ^ n → wrB B (n + 1) (c * B.length ^ n + x) = B.getD c none :: wrB B n x
  | 0, c, x, hc, hx => by
    have : x = 0 := by simpa using hx
    subst this
    simp [wrB, Nat.mod_eq_of_lt hc]
  | n + 1, c, x, hc, hx => by
    have e1 : (c * B.length ^ (n + 1) + x) / B.length = c * B.length ^ n + x / B.length := by
      rw [Nat.pow_succ, ← Nat.mul_assoc, Nat.add_comm, Nat.add_mul_div_right _ _ hB, Nat.add_comm]
    have e2 : (c * B.length ^ (n + 1) + x) % B.length = x % B.length := by
      rw [Nat.pow_succ, ← Nat.mul_assoc, Nat.add_comm, Nat.add_mul_mod_self_right]
    have hx2 : x / B.length < B.length ^ n := by
      rw [Nat.div_lt_iff_lt_mul hB]; rwa [Nat.pow_succ] at hx
    rw [wrB, e1, e2, wrB_front hB n c _ hc hx2]
    conv => rhs; rw [wrB]
    rfl
theorem range_mul_flat (m : Nat) (f : Nat → List T3) : ∀ (b : Nat), (List.range (b * m)).map f = (List.range b).flatMap (fun c => (List.range m).map fun x => f (c * m + x))
  | 0 => by simp
  | b + 1 => by
    rw [List.range_succ, List.flatMap_append, ← range_mul_flat m f b, Nat.succ_mul, List.range_add, List.map_append]
    simp [List.map_map]
theorem flat_get {β : Type} (g : T3 → List β) (B : List T3) : B.flatMap g = (List.range B.length).flatMap (fun c => g (B.getD c none)) := by
  have : B = (List.range B.length).map (fun c => B.getD c none) := by
    apply List.ext_getElem
    · simp
    · intro i h1 h2; simp [h1]
  conv => lhs; rw [this, List.flatMap_map]
theorem vals_wr {B : List T3} (hB : 0 < B.length) : ∀ (n : Nat), (List.range (B.length ^ n)).map (wrB B n) = valsB B n
  | 0 => rfl
  | n + 1 => by
    rw [Nat.pow_succ, Nat.mul_comm, range_mul_flat]
    unfold valsB
    rw [← vals_wr hB n, flat_get]
    apply flat_congr
    intro c hc
    have hc := List.mem_range.1 hc
    rw [List.map_map]
    apply List.map_congr_left
    intro x hx
    have hx := List.mem_range.1 hx
    have := wrB_front hB n c x hc hx
    simpa using this
where
  flat_congr {α β : Type} {f g : α → List β} : ∀ {l : List α}, (∀ a ∈ l, f a = g a) → l.flatMap f = l.flatMap g
    | [], _ => rfl
    | a :: l, h => by
      rw [List.flatMap_cons, List.flatMap_cons, h a (by simp), flat_congr (fun b hb => h b (by simp [hb]))]
end Go.Proofs.YtmobefgnkiboaaaDoor.Tr

namespace Go.Proofs.YtmobefgnkiboaaaDoor.Tr
set_option linter.unusedVariables false
def leT (a b : T3) : Prop := a = none ∨ a = b
theorem leT.refl (a : T3) : leT a a := .inr rfl
theorem leT.trans {a b c : T3} (h : leT a b) (k : leT b c) : leT a c := by
  rcases h with rfl | rfl
  · exact .inl rfl
  · exact k
instance (a b : T3) : Decidable (leT a b) := inferInstanceAs (Decidable (_ ∨ _))
theorem all3 {p : T3 → Prop} (h0 : p none) (h1 : p (some false)) (h2 : p (some true)) : ∀ a, p a
  | none => h0
  | some false => h1
  | some true => h2
theorem not3_some {a : T3} (h : a ≠ none) : not3 a ≠ none := by
  revert h; exact all3 (p := fun a => a ≠ none → not3 a ≠ none) (by decide) (by decide) (by decide) a
theorem op3_some {a b : T3} (k : Op) (h : a ≠ none) (g : b ≠ none) : op3 k a b ≠ none := by
  match a, b, h, g with
  | some false, some false, _, _ => cases k <;> decide
  | some false, some true, _, _ => cases k <;> decide
  | some true, some false, _, _ => cases k <;> decide
  | some true, some true, _, _ => cases k <;> decide
  | none, _, h, _ => exact absurd rfl h
  | _, none, _, h => exact absurd rfl h
theorem ev_some {n : Nat} {ρ : Nat → T3} (h : ∀ i, i < n → ρ i ≠ none) : ∀ {f : Fm}, f.low n → ev ρ f ≠ none
  | .con _, _ => by simp [ev]
  | .lt i, hf => h i hf
  | .neg f, hf => not3_some (ev_some h (f := f) hf)
  | .bin k l r, hf => op3_some k (ev_some h hf.1) (ev_some h hf.2)
theorem ev_congr {n : Nat} {ρ σ : Nat → T3} (h : ∀ i, i < n → ρ i = σ i) : ∀ {f : Fm}, f.low n → ev ρ f = ev σ f
  | .con _, _ => rfl
  | .lt i, hf => h i hf
  | .neg f, hf => congrArg not3 (ev_congr h (f := f) hf)
  | .bin k l r, hf => by
    show op3 k _ _ = op3 k _ _
    rw [ev_congr h hf.1, ev_congr h hf.2]
def leV (v w : List T3) : Prop := ∀ i, leT (getV v i) (getV w i)
theorem leV.refl (v : List T3) : leV v v := fun _ => .refl _
theorem leV.trans {u v w : List T3} (h : leV u v) (k : leV v w) : leV u w := fun i => (h i).trans (k i)
theorem getV_ext {v w : List T3} (hl : v.length = w.length) (h : ∀ i, i < v.length → getV v i = getV w i) : v = w := by
  apply List.ext_getElem hl
  intro i h1 h2
  have := h i h1
  simpa [getV, h1, h2] using this
theorem getV_next {fs : List Fm} {v : List T3} {i : Nat} (h : i < fs.length) : getV (nextV fs v) i = ev (getV v) (fs.getD i (.con false)) := by
  simp [getV, nextV, h]
def iterV (fs : List Fm) : Nat → List T3 → List T3
  | 0, v => v
  | k + 1, v => nextV fs (iterV fs k v)
def isFix (fs : List Fm) (v : List T3) : Prop := nextV fs v = v
instance (fs : List Fm) (v : List T3) : Decidable (isFix fs v) := inferInstanceAs (Decidable (_ = _))
theorem isFix.len {fs : List Fm} {v : List T3} (h : isFix fs v) : v.length = fs.length := by rw [← nextV_len fs v, h]
def comV (v w : List T3) : Prop := ∀ i, getV v i = none ∨ getV w i = none ∨ getV v i = getV w i
theorem comV.symm {v w : List T3} (h : comV v w) : comV w v := fun i => by
  rcases h i with h | h | h
  · exact .inr (.inl h)
  · exact .inl h
  · exact .inr (.inr h.symm)
end Go.Proofs.YtmobefgnkiboaaaDoor.Tr

namespace Go.Proofs.YtmobefgnkiboaaaDoor.Tr
set_option linter.unusedVariables false
def fixB (fs : List Fm) (v : List T3) : Bool := decide (isFix fs v)
end Go.Proofs.YtmobefgnkiboaaaDoor.Tr

namespace Go.Proofs.YtmobefgnkiboaaaDoor.Tr
set_option linter.unusedVariables false
theorem nodup_le : ∀ (N : Nat) (L : List Nat), L.Nodup → (∀ x ∈ L, x < N) → L.length ≤ N
  | 0, [], _, _ => Nat.le_refl _
  | 0, x :: _, _, h => absurd (h x (by simp)) (by omega)
  | N + 1, L, hn, h => by
    have h1 := nodup_le N (L.erase N) (hn.erase N) (fun x hx => by
      have hx := (hn.mem_erase_iff).1 hx
      have := h x hx.2
      have := hx.1
      omega)
    by_cases hm : N ∈ L
    · rw [List.length_erase_of_mem hm] at h1; omega
    · rw [List.erase_of_not_mem hm] at h1; omega
def bit3 : T3 → Nat
  | some true => 1
  | _ => 0
def numFrom (a : Nat) : List T3 → Nat
  | [] => a
  | c :: v => numFrom (2 * a + bit3 c) v
def numV (v : List T3) : Nat := numFrom 0 v
def totV (v : List T3) : Prop := ∀ x ∈ v, x ≠ none
theorem numFrom_snoc : ∀ (v : List T3) (a : Nat) (c : T3), numFrom a (v ++ [c]) = 2 * numFrom a v + bit3 c
  | [], _, _ => rfl
  | d :: v, a, c => by rw [List.cons_append, numFrom, numFrom, numFrom_snoc v]
theorem numV_wr : ∀ (n x : Nat), x < 2 ^ n → numV (wrB base2 n x) = x
  | 0, x, h => by
    have : x = 0 := by simpa using h
    subst this; rfl
  | n + 1, x, h => by
    have hl : base2.length = 2 := rfl
    rw [wrB, hl, numV, numFrom_snoc]
    have ih := numV_wr n (x / 2) (by rw [Nat.pow_succ] at h; omega)
    rw [numV] at ih
    rw [ih]
    have : bit3 (base2.getD (x % 2) none) = x % 2 := by
      rcases Nat.mod_two_eq_zero_or_one x with h | h <;> rw [h] <;> rfl
    rw [this]; omega
theorem wr_tot : ∀ (n x : Nat), totV (wrB base2 n x)
  | 0, _ => by intro y hy; cases hy
  | n + 1, x => by
    intro y hy
    rw [wrB, List.mem_append, List.mem_singleton] at hy
    rcases hy with hy | rfl
    · exact wr_tot n _ y hy
    · have hl : base2.length = 2 := rfl
      rw [hl]
      rcases Nat.mod_two_eq_zero_or_one x with h | h <;> rw [h] <;> simp [base2]
theorem tot_mem {n : Nat} {v : List T3} (hl : v.length = n) (h : totV v) : v ∈ valsB base2 n := mem_valsB.2 ⟨hl, fun x hx => by
  have := h x hx
  rcases x with _ | (_ | _)
  · exact absurd rfl this
  · decide
  · decide⟩
theorem tot_of_mem {n : Nat} {v : List T3} (h : v ∈ valsB base2 n) : v.length = n ∧ totV v := by
  obtain ⟨h1, h2⟩ := mem_valsB.1 h
  refine ⟨h1, fun x hx => ?_⟩
  have := h2 x hx
  intro e
  subst e
  revert this
  decide
theorem wr_num {n : Nat} {v : List T3} (hl : v.length = n) (h : totV v) : wrB base2 n (numV v) = v ∧ numV v < 2 ^ n := by
  have hm := tot_mem hl h
  rw [← vals_wr (B := base2) (by decide) n] at hm
  obtain ⟨x, hx, rfl⟩ := List.mem_map.1 hm
  have hx : x < 2 ^ n := List.mem_range.1 hx
  rw [numV_wr n x hx]
  exact ⟨rfl, hx⟩
theorem getV_tot {v : List T3} (h : totV v) {i : Nat} (hi : i < v.length) : getV v i ≠ none := by
  have : getV v i = v[i] := by simp [getV, hi]
  rw [this]
  exact h _ (List.getElem_mem hi)
theorem nextV_tot {n : Nat} {fs : List Fm} (S : Sys n fs) {v : List T3} (hl : v.length = n) (h : totV v) : totV (nextV fs v) := by
  intro x hx
  obtain ⟨f, hf, rfl⟩ := List.mem_map.1 hx
  exact ev_some (fun i hi => getV_tot h (by omega)) (S.low f hf)
theorem iterV_add (fs : List Fm) (v : List T3) (a : Nat) : ∀ b, iterV fs (b + a) v = iterV fs b (iterV fs a v)
  | 0 => by rw [Nat.zero_add]; rfl
  | b + 1 => by rw [Nat.add_right_comm, iterV, iterV_add fs v a b]; rfl
def recV (fs : List Fm) (v : List T3) : Prop := ∃ k, 0 < k ∧ iterV fs k v = v
theorem rec_iter {fs : List Fm} {v : List T3} (h : recV fs v) (a : Nat) : recV fs (iterV fs a v) := by
  obtain ⟨k, hk, e⟩ := h
  refine ⟨k, hk, ?_⟩
  rw [← iterV_add, Nat.add_comm, iterV_add, e]
def itN (f : Nat → Nat) : Nat → Nat → Nat
  | 0, x => x
  | k + 1, x => f (itN f k x)
theorem itN_add (f : Nat → Nat) (a x : Nat) : ∀ b, itN f (b + a) x = itN f b (itN f a x)
  | 0 => by rw [Nat.zero_add]; rfl
  | b + 1 => by rw [Nat.add_right_comm, itN, itN_add f a x b]; rfl
theorem led_rec (N : Nat) (f : Nat → Nat) (L : Nat → Prop) (hL : ∀ x, L x → x < N) (led : ∀ x, L x → ∃ y, L y ∧ f y = x) : ∀ x, L x → ∃ k, 0 < k ∧ itN f k x = x := by
  intro x hx
  have hch : ∃ p : Nat → Nat, ∀ y, L y → L (p y) ∧ f (p y) = y := by
    classical
    refine ⟨fun y => if h : L y then Classical.choose (led y h) else 0, fun y hy => ?_⟩
    simp only [dif_pos hy]
    exact Classical.choose_spec (led y hy)
  obtain ⟨p, hp⟩ := hch
  have hb : ∀ k, L (itN p k x) := by
    intro k
    induction k with
    | zero => exact hx
    | succ k ih => exact (hp _ ih).1
  have hback : ∀ b a, itN f b (itN p (b + a) x) = itN p a x := by
    intro b
    induction b with
    | zero => intro a; rw [Nat.zero_add]; rfl
    | succ b ih =>
      intro a
      rw [show b + 1 + a = b + (a + 1) by omega, show itN f (b + 1) (itN p (b + (a + 1)) x) = f (itN f b (itN p (b + (a + 1)) x)) from rfl, ih (a + 1)]
      exact (hp _ (hb a)).2
  have hdup : ∃ a b, a < b ∧ itN p a x = itN p b x := by
    refine Classical.byContradiction fun hno => ?_
    have hno : ∀ a b, a < b → itN p a x ≠ itN p b x := fun a b hab e => hno ⟨a, b, hab, e⟩
    have h1 := nodup_le N ((List.range (N + 1)).map fun a => itN p a x) (by
      rw [List.nodup_iff_pairwise_ne, List.pairwise_map]
      exact List.Pairwise.imp (fun {a b} hab => hno a b hab) List.pairwise_lt_range) (fun y hy => by
      obtain ⟨a, _, rfl⟩ := List.mem_map.1 hy
      exact hL _ (hb a))
    rw [List.length_map, List.length_range] at h1
    omega
  obtain ⟨a, b, hab, e⟩ := hdup
  refine ⟨b - a, by omega, ?_⟩
  have e1 := hback a 0
  rw [Nat.add_zero] at e1
  have e2 := hback (b - a) a
  rw [Nat.sub_add_cancel (Nat.le_of_lt hab), ← e] at e2
  have e0 : itN p 0 x = x := rfl
  rw [e0] at e1
  have e3 : itN f (b - a) (itN f a (itN p a x)) = itN f a (itN f (b - a) (itN p a x)) := by rw [← itN_add, ← itN_add, Nat.add_comm]
  rw [e1, e2, e1] at e3
  exact e3
end Go.Proofs.YtmobefgnkiboaaaDoor.Tr

namespace Go.Proofs.YtmobefgnkiboaaaDoor.Tr
set_option linter.unusedVariables false
def nxN (fs : List Fm) (n x : Nat) : Nat := numV (nextV fs (wrB base2 n x))
theorem nxN_lt {n : Nat} {fs : List Fm} (S : Sys n fs) (x : Nat) : nxN fs n x < 2 ^ n :=
  (wr_num (by rw [nextV_len, S.len]) (nextV_tot S (wrB_len _ _ _) (wr_tot n x))).2
theorem wr_nxN {n : Nat} {fs : List Fm} (S : Sys n fs) (x : Nat) : wrB base2 n (nxN fs n x) = nextV fs (wrB base2 n x) :=
  (wr_num (by rw [nextV_len, S.len]) (nextV_tot S (wrB_len _ _ _) (wr_tot n x))).1
theorem wr_itN {n : Nat} {fs : List Fm} (S : Sys n fs) (x : Nat) : ∀ k, wrB base2 n (itN (nxN fs n) k x) = iterV fs k (wrB base2 n x)
  | 0 => rfl
  | k + 1 => by rw [itN, wr_nxN S, wr_itN S x k]; rfl
theorem itN_lt {n : Nat} {fs : List Fm} (S : Sys n fs) {x : Nat} (hx : x < 2 ^ n) : ∀ k, itN (nxN fs n) k x < 2 ^ n
  | 0 => hx
  | _ + 1 => nxN_lt S _
theorem rec_num {n : Nat} {fs : List Fm} (S : Sys n fs) {x : Nat} (hx : x < 2 ^ n) : recV fs (wrB base2 n x) ↔ ∃ k, 0 < k ∧ itN (nxN fs n) k x = x := by
  constructor
  · rintro ⟨k, hk, e⟩
    rw [← wr_itN S] at e
    refine ⟨k, hk, ?_⟩
    have := congrArg numV e
    rwa [numV_wr n _ (itN_lt S hx k), numV_wr n x hx] at this
  · rintro ⟨k, hk, e⟩
    exact ⟨k, hk, by rw [← wr_itN S, e]⟩
structure Left (fs : List Fm) (n : Nat) (L : Nat → Bool) : Prop where
  lt : ∀ x, L x = true → x < 2 ^ n
  has : ∀ x, x < 2 ^ n → recV fs (wrB base2 n x) → L x = true
def ledN (fs : List Fm) (n : Nat) (L : Nat → Bool) (y : Nat) : Prop := ∃ x, L x = true ∧ nxN fs n x = y
theorem Left.step {n : Nat} {fs : List Fm} (S : Sys n fs) {L M : Nat → Bool} (h : Left fs n L) (hM : ∀ y, M y = true ↔ L y = true ∧ ledN fs n L y) : Left fs n M := by
  refine ⟨fun x hx => h.lt x ((hM x).1 hx).1, fun x hx hr => (hM x).2 ⟨h.has x hx hr, ?_⟩⟩
  obtain ⟨k, hk, e⟩ := (rec_num S hx).1 hr
  match k, hk, e with
  | k + 1, _, e =>
    refine ⟨itN (nxN fs n) k x, h.has _ (itN_lt S hx k) ?_, e⟩
    rw [wr_itN S]
    exact rec_iter hr k
theorem Left.done {n : Nat} {fs : List Fm} (S : Sys n fs) {L : Nat → Bool} (h : Left fs n L) (hd : ∀ y, L y = true → ledN fs n L y) (x : Nat) : L x = true ↔ x < 2 ^ n ∧ recV fs (wrB base2 n x) := by
  constructor
  · intro hx
    refine ⟨h.lt x hx, (rec_num S (h.lt x hx)).2 ?_⟩
    exact led_rec (2 ^ n) (nxN fs n) (fun x => L x = true) h.lt hd x hx
  · rintro ⟨h1, h2⟩; exact h.has x h1 h2
end Go.Proofs.YtmobefgnkiboaaaDoor.Tr

namespace Go.Proofs.YtmobefgnkiboaaaDoor.Tr
set_option linter.unusedVariables false
def evn (j : Nat) : Fm → Bool → Bool → Bool
  | .con _, _, _ => false
  | .lt i, odd, tw => i == j && (!odd || tw)
  | .neg f, odd, tw => evn j f (!odd) tw
  | .bin k l r, odd, tw => evn j l odd (tw || k == .eq) || evn j r odd (tw || k == .eq)
def odn (j : Nat) : Fm → Bool → Bool → Bool
  | .con _, _, _ => false
  | .lt i, odd, tw => i == j && (odd || tw)
  | .neg f, odd, tw => odn j f (!odd) tw
  | .bin k l r, odd, tw => odn j l odd (tw || k == .eq) || odn j r odd (tw || k == .eq)
def fmA (fs : List Fm) (i : Nat) : Fm := fs.getD i (.con false)
theorem fmA_low {n : Nat} {fs : List Fm} (S : Sys n fs) (i : Nat) : (fmA fs i).low n := by
  unfold fmA
  rw [List.getD_eq_getElem?_getD]
  rcases Nat.lt_or_ge i fs.length with h | h
  · rw [List.getElem?_eq_getElem h]; exact S.low _ (List.getElem_mem h)
  · rw [List.getElem?_eq_none h]; trivial
def subN (a b : Nat) : Prop := ∀ j, a.testBit j = true → b.testBit j = true
theorem subN.refl (a : Nat) : subN a a := fun _ h => h
theorem subN.trans {a b c : Nat} (h : subN a b) (k : subN b c) : subN a c := fun j hj => k j (h j hj)
theorem subN.and {a b : Nat} (h : subN a b) : a &&& b = a := Nat.eq_of_testBit_eq fun j => by
  rw [Nat.testBit_and]
  cases ha : a.testBit j with
  | false => rfl
  | true => rw [h j ha]; rfl
theorem bits_of (p : Nat → Bool) : ∀ m, ∃ b, b < 2 ^ m ∧ ∀ k, k < m → b.testBit k = p k
  | 0 => ⟨0, by decide, fun k h => by omega⟩
  | m + 1 => by
    obtain ⟨b, hb, h⟩ := bits_of p m
    cases hp : p m with
    | false =>
      refine ⟨b, Nat.lt_of_lt_of_le hb (Nat.pow_le_pow_right (by decide) (by omega)), fun k hk => ?_⟩
      rcases Nat.lt_or_ge k m with h1 | h1
      · exact h k h1
      · have : k = m := by omega
        subst this
        rw [hp, Nat.testBit_lt_two_pow hb]
    | true =>
      refine ⟨b ||| 2 ^ m, Nat.or_lt_two_pow (Nat.lt_of_lt_of_le hb (Nat.pow_le_pow_right (by decide) (by omega))) (Nat.pow_lt_pow_right (by decide) (by omega)), fun k hk => ?_⟩
      rw [Nat.testBit_or, Nat.testBit_two_pow]
      rcases Nat.lt_or_ge k m with h1 | h1
      · rw [h k h1, decide_eq_false (by omega), Bool.or_false]
      · have : k = m := by omega
        subst this
        simp [hp]
end Go.Proofs.YtmobefgnkiboaaaDoor.Tr

namespace Go.Proofs.YtmobefgnkiboaaaDoor.Tr
set_option linter.unusedVariables false
def sg1 (fs : List Fm) (i j : Nat) : Bool × Bool := (evn j (fmA fs i) false false, odn j (fmA fs i) false false)
def jn (c a : Bool × Bool) : Bool × Bool := (c.1 && a.1 || c.2 && a.2, c.1 && a.2 || c.2 && a.1)
def hasP (c : Bool × Bool) (s : Bool) : Bool := if s then c.2 else c.1
def pxr (t : Nat → Bool) : Nat → Bool
  | 0 => false
  | k + 1 => pxr t k ^^ t k
theorem pxr_shift (t : Nat → Bool) (a : Nat) : ∀ k, pxr (fun x => t (a + x)) k = (pxr t (a + k) ^^ pxr t a)
  | 0 => by simp [pxr]
  | k + 1 => by
    rw [pxr, pxr_shift t a k, show a + (k + 1) = a + k + 1 by omega, pxr]
    cases pxr t (a + k) <;> cases t (a + k) <;> cases pxr t a <;> rfl
theorem pxr_same {t u : Nat → Bool} : ∀ {k : Nat}, (∀ x, x < k → t x = u x) → pxr t k = pxr u k
  | 0, _ => rfl
  | k + 1, h => by rw [pxr, pxr, pxr_same (fun x hx => h x (by omega)), h k (by omega)]
theorem pxr_add (t : Nat → Bool) (a k : Nat) : pxr t (a + k) = (pxr t a ^^ pxr (fun x => t (a + x)) k) := by
  rw [pxr_shift]
  cases pxr t (a + k) <;> cases pxr t a <;> rfl
end Go.Proofs.YtmobefgnkiboaaaDoor.Tr

namespace Go.Proofs.YtmobefgnkiboaaaDoor.Tr
set_option linter.unusedVariables false
def edgeE (fs : List Fm) (n : Nat) (i j : Nat) (s : Bool) : Prop := i < n ∧ hasP (sg1 fs i j) s = true
def xB (v : List T3) (j : Nat) : Bool := getV v j == some true
theorem tot_xB {v : List T3} (h : totV v) {j : Nat} (hj : j < v.length) : getV v j = some (xB v j) := by
  have := getV_tot h hj
  unfold xB
  revert this
  rcases getV v j with _ | (_ | _)
  · intro h; exact absurd rfl h
  · intro _; rfl
  · intro _; rfl
theorem fix_at {fs : List Fm} {v : List T3} (h : isFix fs v) {i : Nat} (hi : i < fs.length) : ev (getV v) (fmA fs i) = getV v i := by
  show ev (getV v) (fs.getD i (.con false)) = _
  rw [← getV_next hi, show nextV fs v = v from h]
inductive Wk (fs : List Fm) (n : Nat) (U : Nat → Prop) : Nat → Nat → Bool → Prop where
  | one {i j : Nat} {s : Bool} : edgeE fs n i j s → U i → U j → Wk fs n U i j s
  | more {i j k : Nat} {s t : Bool} : edgeE fs n i j s → U i → Wk fs n U j k t → Wk fs n U i k (s ^^ t)
theorem Wk.trans {fs : List Fm} {n : Nat} {U : Nat → Prop} {i j k : Nat} {s t : Bool} (h : Wk fs n U i j s) (g : Wk fs n U j k t) : Wk fs n U i k (s ^^ t) := by
  induction h with
  | one he hi _ => exact .more he hi g
  | more he hi _ ih => rw [Bool.xor_assoc]; exact .more he hi (ih g)
theorem Wk.walk {fs : List Fm} {n : Nat} {U : Nat → Prop} {i j : Nat} {s : Bool} (h : Wk fs n U i j s) :
    ∃ (v : Nat → Nat) (t : Nat → Bool) (len : Nat), 0 < len ∧ v 0 = i ∧ v len = j ∧ (∀ k, k < len → edgeE fs n (v k) (v (k + 1)) (t k)) ∧ pxr t len = s := by
  induction h with
  | @one i j s he _ _ =>
    refine ⟨fun k => if k = 0 then i else j, fun _ => s, 1, by omega, rfl, rfl, fun k hk => ?_, by simp [pxr]⟩
    have : k = 0 := by omega
    subst this
    exact he
  | @more i j k s t he _ _ ih =>
    obtain ⟨v, u, len, h0, h1, h2, h3, h4⟩ := ih
    refine ⟨fun k => if k = 0 then i else v (k - 1), fun k => if k = 0 then s else u (k - 1), len + 1, by omega, rfl, ?_, fun k hk => ?_, ?_⟩
    · show (if len + 1 = 0 then i else v (len + 1 - 1)) = _
      rw [if_neg (by omega), Nat.add_sub_cancel, h2]
    · rcases Nat.eq_zero_or_pos k with hk0 | hk0
      · subst hk0
        show edgeE fs n i (v 0) s
        rw [h1]; exact he
      · show edgeE fs n (if k = 0 then i else v (k - 1)) (if k + 1 = 0 then i else v (k + 1 - 1)) (if k = 0 then s else u (k - 1))
        rw [if_neg (by omega), if_neg (by omega), if_neg (by omega)]
        have := h3 (k - 1) (by omega)
        rw [Nat.sub_add_cancel hk0] at this
        exact this
    · rw [show len + 1 = 1 + len by omega, pxr_add]
      have a1 : pxr (fun k => if k = 0 then s else u (k - 1)) 1 = s := by simp [pxr]
      have a2 : pxr (fun x => (fun k => if k = 0 then s else u (k - 1)) (1 + x)) len = pxr u len := pxr_same fun x _ => by
        show (if 1 + x = 0 then s else u (1 + x - 1)) = u x
        rw [if_neg (by omega), show 1 + x - 1 = x by omega]
      rw [a1, a2, h4]
def rk3 : T3 → Nat
  | some false => 0
  | none => 1
  | some true => 2
def leR (up : Bool) (a b : T3) : Prop := if up then rk3 a ≤ rk3 b else rk3 b ≤ rk3 a
theorem leR.refl (up : Bool) (a : T3) : leR up a a := by cases up <;> exact Nat.le_refl _
instance (up : Bool) (a b : T3) : Decidable (leR up a b) := by unfold leR; infer_instance
end Go.Proofs.YtmobefgnkiboaaaDoor.Tr

namespace Go.Proofs.YtmobefgnkiboaaaDoor.Tr
set_option linter.unusedVariables false
def bitV (n : Nat) (v : Nat → Bool) : List T3 := (List.range n).map fun j => some (v j)
theorem bitV_len (n : Nat) (v : Nat → Bool) : (bitV n v).length = n := by simp [bitV]
theorem bitV_tot (n : Nat) (v : Nat → Bool) : totV (bitV n v) := by
  intro x hx
  obtain ⟨j, _, rfl⟩ := List.mem_map.1 hx
  simp
theorem getV_bit {n : Nat} {v : Nat → Bool} {j : Nat} (h : j < n) : getV (bitV n v) j = some (v j) := by
  simp [getV, bitV, h]
theorem ev_bit {n : Nat} {fs : List Fm} (S : Sys n fs) (v : Nat → Bool) (i : Nat) : ev (getV (bitV n v)) (fmA fs i) = ev (fun j => some (v j)) (fmA fs i) :=
  ev_congr (n := n) (fun j hj => getV_bit hj) (fmA_low S i)
theorem fix_iff {n : Nat} {fs : List Fm} (S : Sys n fs) (v : Nat → Bool) : isFix fs (bitV n v) ↔ ∀ i, i < n → ev (fun j => some (v j)) (fmA fs i) = some (v i) := by
  constructor
  · intro h i hi
    rw [← ev_bit S, fix_at h (by rw [S.len]; exact hi), getV_bit hi]
  · intro h
    refine getV_ext (by rw [nextV_len, bitV_len, S.len]) fun i hi => ?_
    rw [nextV_len, S.len] at hi
    rw [getV_next (by rw [S.len]; exact hi), getV_bit hi, ← h i hi]
    exact ev_bit S v i
theorem tot_bit {n : Nat} {v : List T3} (hl : v.length = n) (h : totV v) : bitV n (xB v) = v := getV_ext (by rw [bitV_len, hl]) fun i hi => by
  rw [bitV_len] at hi
  rw [getV_bit hi, tot_xB h (by omega)]
end Go.Proofs.YtmobefgnkiboaaaDoor.Tr

namespace Go.Proofs.YtmobefgnkiboaaaDoor.Tr
set_option linter.unusedVariables false
def runV {α σ : Type} (vis : σ → α → Bool × σ) : List α → σ → Bool × σ
  | [], st => (false, st)
  | v :: vs, st => if (vis st v).1 then (true, (vis st v).2) else runV vis vs (vis st v).2
theorem runV_append {α σ : Type} (vis : σ → α → Bool × σ) : ∀ (zs bs : List α) (st : σ), runV vis (zs ++ bs) st = if (runV vis zs st).1 then (true, (runV vis zs st).2) else runV vis bs (runV vis zs st).2
  | [], bs, st => by simp [runV]
  | a :: zs, bs, st => by
    rw [List.cons_append, runV, runV]
    split
    · simp
    · exact runV_append vis zs bs _
def onV {σ : Type} (vis : σ → List T3 → Bool × σ) (B : List T3) (k : Nat) (v : List T3) (st : σ) : Bool × σ := runV vis ((valsB B k).map (v ++ ·)) st
def lpV {σ : Type} (vis : σ → List T3 → Bool × σ) (B : List T3) (k : Nat) (v : List T3) : List T3 → σ → Bool × σ
  | [], st => (false, st)
  | c :: cs, st => if (onV vis B k (v ++ [c]) st).1 then (true, (onV vis B k (v ++ [c]) st).2) else lpV vis B k v cs (onV vis B k (v ++ [c]) st).2
theorem onV_zero {σ : Type} (vis : σ → List T3 → Bool × σ) (B : List T3) (v : List T3) (st : σ) : onV vis B 0 v st = vis st v := by
  unfold onV valsB
  rw [List.map_cons, List.map_nil, List.append_nil, runV, runV]
  split
  · rename_i h; exact Prod.ext h.symm rfl
  · rename_i h; exact Prod.ext (by simpa using (Bool.eq_false_iff.2 h).symm) rfl
theorem lpV_eq {σ : Type} (vis : σ → List T3 → Bool × σ) (B : List T3) (k : Nat) (v : List T3) : ∀ (cs : List T3) (st : σ), lpV vis B k v cs st = runV vis ((cs.flatMap fun c => (valsB B k).map (c :: ·)).map (v ++ ·)) st
  | [], st => rfl
  | c :: cs, st => by
    rw [lpV, List.flatMap_cons, List.map_append, runV_append, List.map_map]
    have e : ((fun x => v ++ x) ∘ fun x => c :: x) = fun x => (v ++ [c]) ++ x := by funext x; simp
    rw [e]
    show (if (onV vis B k (v ++ [c]) st).1 then _ else _) = if (onV vis B k (v ++ [c]) st).1 then _ else _
    split
    · rfl
    · exact lpV_eq vis B k v cs _
theorem onV_succ {σ : Type} (vis : σ → List T3 → Bool × σ) (B : List T3) (k : Nat) (v : List T3) (st : σ) : onV vis B (k + 1) v st = lpV vis B k v B st := by
  rw [lpV_eq]; rfl
theorem onV_all {σ : Type} (vis : σ → List T3 → Bool × σ) (B : List T3) (k : Nat) (st : σ) : onV vis B k [] st = runV vis (valsB B k) st := by
  unfold onV
  congr 1
  exact (List.map_congr_left (fun x _ => List.nil_append x)).trans (List.map_id _)
def visF (fs : List Fm) (_ : List T3) (v : List T3) : Bool × List T3 := (fixB fs v, v)
def visC (fs : List Fm) (m : Nat) (v : List T3) : Bool × Nat := (false, if fixB fs v then m + 1 else m)
theorem run_count (fs : List Fm) : ∀ (l : List (List T3)) (m : Nat), runV (visC fs) l m = (false, m + (l.filter (fixB fs)).length)
  | [], m => rfl
  | w :: l, m => by
    rw [runV]
    show runV (visC fs) l (if fixB fs w then m + 1 else m) = _
    by_cases h : fixB fs w = true
    · rw [if_pos h, run_count fs l, List.filter_cons_of_pos h, List.length_cons]; congr 1; omega
    · rw [if_neg h, run_count fs l, List.filter_cons_of_neg h]
end Go.Proofs.YtmobefgnkiboaaaDoor.Tr

