/- Strings as the walk compares them. No conditions. -/
import Derived.Test.YtegknpffiaeohaaDoorBase
namespace Go.Proofs.YtegknpffiaeohaaDoor
open Go.RowKit

theorem toList_loop (a : ByteArray) : ∀ (n i : Nat) (r : List UInt8), a.size - i = n → ByteArray.toList.loop a i r = r.reverse ++ a.data.toList.drop i
  | n, i, r, hn => by
    rw [ByteArray.toList.loop]
    by_cases h : i < a.size
    · rw [if_pos h, toList_loop a (n - 1) (i + 1) _ (by omega)]
      have h2 : i < a.data.toList.length := by simpa using h
      rw [List.drop_eq_getElem_cons h2, List.reverse_cons, List.append_assoc]
      congr 1
      show a.get! i :: _ = _
      have : a.get! i = a.data.toList[i] := by
        show a.data[i]! = _
        rw [getElem!_pos a.data i (by simpa using h)]
        simp
      rw [this]
      rfl
    · rw [if_neg h, List.drop_of_length_le (by simpa using h), List.append_nil]
termination_by n => n
theorem toList_data (a : ByteArray) : a.toList = a.data.toList := by
  rw [ByteArray.toList, toList_loop a _ 0 [] rfl]; simp
theorem str_eq (a b : ByteArray) : (a.toList == b.toList) = decide (a = b) := by
  rw [toList_data, toList_data, Bool.eq_iff_iff]
  simp
  constructor
  · intro h; cases a; cases b; simp at h; rw [h]
  · intro h; rw [h]

theorem str_true {a b : ByteArray} (h : a = b) : (a.toList == b.toList) = true := by rw [str_eq]; exact decide_eq_true h
theorem str_false {a b : ByteArray} (h : a ≠ b) : (a.toList == b.toList) = false := by rw [str_eq]; exact decide_eq_false h

end Go.Proofs.YtegknpffiaeohaaDoor
