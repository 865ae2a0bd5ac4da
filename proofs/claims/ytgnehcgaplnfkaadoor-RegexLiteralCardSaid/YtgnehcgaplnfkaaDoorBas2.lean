/- Plain words on numbers and texts for the pure laws. No program in it. -/
import Derived.Test.YtgnehcgaplnfkaaDoorBase
namespace Go.Proofs.YtgnehcgaplnfkaaDoor.Base
open Go.RowKit Go.Proofs.YtgnehcgaplnfkaaDoorW.PrintWords
theorem wrap_nat (i : Nat) (h : i < 4611686018427387904) : wrap64 ((i : Int) + 1) = ((i + 1 : Nat) : Int) := by
  unfold wrap64
  omega
theorem bt_list (s : ByteArray) (i : Nat) (h : i < s.size) : bt s (i : Int) = ((s.data.toList.getD i 0).toNat : Int) := by
  have h1 := bt_at s (i : Int) (by simpa using h)
  rw [← h1]
  have h' : i < s.data.toList.length := by rw [data_length]; exact h
  rw [List.getD_eq_getElem?_getD, List.getElem?_eq_getElem h']
  rfl
theorem append_data (a b : ByteArray) : (a ++ b).data.toList = a.data.toList ++ b.data.toList := by simp [ByteArray.data_append]
theorem size_list (s : ByteArray) : s.size = s.data.toList.length := (data_length s).symm

end Go.Proofs.YtgnehcgaplnfkaaDoor.Base
