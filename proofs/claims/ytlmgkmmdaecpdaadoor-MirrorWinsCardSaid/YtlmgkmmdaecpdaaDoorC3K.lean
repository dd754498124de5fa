/- Further parts of the same walk: contracts of the functions that the law reaches, each under the conditions that it states. -/
import Derived.Test.YtlmgkmmdaecpdaaDoorC3J
import Derived.Deep.RegionWith
namespace Go.Proofs.YtlmgkmmdaecpdaaDoor.Im
open Go.RowKit Go.Proofs.YtlmgkmmdaecpdaaDoorW.PrintWords Go.Proofs.YtlmgkmmdaecpdaaDoorW.PrintLast Go.Proofs.YtlmgkmmdaecpdaaDoorW.PrintMore Go.Proofs.YtlmgkmmdaecpdaaDoor.Mi
set_option linter.unusedVariables false
set_option linter.unusedSimpArgs false
theorem put_data (l : List UInt8) (c : UInt8) (i : Nat) (hi : i < l.length) : ((⟨l.toArray⟩ : ByteArray).extract 0 i ++ ⟨#[c]⟩ ++ (⟨l.toArray⟩ : ByteArray).extract (i + 1) (⟨l.toArray⟩ : ByteArray).size) = ⟨(l.set i c).toArray⟩ := by
  apply ByteArray.ext
  apply Array.toList_inj.1
  have hz : (⟨l.toArray⟩ : ByteArray).size = l.length := by simp [ByteArray.size]
  rw [ByteArray.data_append, ByteArray.data_append, ByteArray.data_extract, ByteArray.data_extract, Array.toList_append, Array.toList_append, Array.toList_extract, Array.toList_extract, hz]
  rw [List.set_eq_take_append_cons_drop, if_pos hi]
  show List.take (i - 0) (List.drop 0 l) ++ [c] ++ List.take (l.length - (i + 1)) (List.drop (i + 1) l) = _
  rw [List.drop_zero, Nat.sub_zero, List.take_of_length_le (l := List.drop (i + 1) l) (by rw [List.length_drop]; omega), List.append_assoc]
  rfl
theorem conv1 (w : World) (c : UInt8) : (convert 60 9 (.slice (some ⟨w.heap.size, 0, none⟩) 1 1)).run Tryd.prog (w.alloc (.cells #[.int .u8 (c.toNat : Int)] 5)) = .ok (.string ⟨#[c]⟩) (w.alloc (.cells #[.int .u8 (c.toNat : Int)] 5)) := by
  have h := run_convert_bytes_arg (P := Tryd.prog) (w.alloc (.cells #[.int .u8 (c.toNat : Int)] 5)) 60 5 Tryd.underlying60 Tryd.underlying5 w.heap.size 0 1 1 [(c.toNat : Int)] rfl (fun i hi => by
    obtain rfl : i = 0 := by omega
    have := (Blk.new w 5 #[.int .u8 (c.toNat : Int)]).cell 0
    exact this) 9 Tryd.underlying9
  rw [h]
  have : strOfNums [(c.toNat : Int)] = ⟨#[c]⟩ := by
    unfold strOfNums
    simp
  rw [this]
theorem conv1d (w : World) (c : UInt8) : (convert 60 9 (.slice (some ⟨w.heap.size, 0, none⟩) 1 1)).run Tryd.prog (w.alloc (.cells #[.int .u8 (c.toNat : Int)] 5)).drew = .ok (.string ⟨#[c]⟩) (w.alloc (.cells #[.int .u8 (c.toNat : Int)] 5)).drew := by
  have h := run_convert_bytes_arg (P := Tryd.prog) (w.alloc (.cells #[.int .u8 (c.toNat : Int)] 5)).drew 60 5 Tryd.underlying60 Tryd.underlying5 w.heap.size 0 1 1 [(c.toNat : Int)] rfl (fun i hi => by
    obtain rfl : i = 0 := by omega
    have := (Blk.new w 5 #[.int .u8 (c.toNat : Int)]).cell 0
    exact this) 9 Tryd.underlying9
  rw [h]
  have : strOfNums [(c.toNat : Int)] = ⟨#[c]⟩ := by
    unfold strOfNums
    simp
  rw [this]
def RW (n k : Nat) : Prop := ∀ (l : List UInt8) (w : World), l.count 46 = k → l.length = n * n → (∀ b ∈ l, b = 120 ∨ b = 111 ∨ b = 46) →
  Calls Tryd.prog 45 #[.int .i64 n, .string ⟨l.toArray⟩] w fun e w' => e = .returned (.int .u8 (gv n l)) ∧ Below w.heap.size w w'
end Go.Proofs.YtlmgkmmdaecpdaaDoor.Im

