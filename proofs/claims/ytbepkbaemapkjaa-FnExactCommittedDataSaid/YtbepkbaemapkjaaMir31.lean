/- Plain words for pure laws, 2: texts, rows, counters. -/
import Derived.Test.YtbepkbaemapkjaaMir30
namespace Mir
set_option linter.unusedVariables false
open Go
theorem seq_self (x : ByteArray) : seq x x = true := by simp [seq]
theorem set_fill {α : Type} (a : List α) (z : α) (i : Nat) (h : i < a.length) : (a.take i ++ List.replicate (a.length - i) z).set i a[i] = a.take (i + 1) ++ List.replicate (a.length - (i + 1)) z := by
  have e : a.length - i = (a.length - (i + 1)) + 1 := by omega
  rw [e, List.replicate_succ, List.set_append_right _ _ (by simp; omega)]
  have : i - (a.take i).length = 0 := by simp; omega
  rw [this, List.set_cons_zero, List.take_add_one, List.getElem?_eq_getElem h]
  simp only [Option.toList_some, List.append_assoc, List.singleton_append]
theorem fill_length {α : Type} (a : List α) (z : α) (i : Nat) (h : i < a.length) : (a.take i ++ List.replicate (a.length - i) z).length = a.length := by simp; omega
theorem getD_at {α : Type} {a : List α} {i : Nat} {d : α} (h : i < a.length) : a.getD i d = a[i] := by simp [List.getD_eq_getElem?_getD, h]
theorem w_up (i n : Nat) (h : i < n) (hn : n ≤ 1048576) : w64 ((i : Int) + 1) = ((i + 1 : Nat) : Int) := by
  rw [w64_eq (by omega) (by omega)]; omega
theorem w_sub {x : Int} {n : Nat} (h : 0 ≤ x) (hx : x ≤ 1048576) (hn : n ≤ maxLen) : w64 (x - n) = x - n := by
  have hm : maxLen ≤ 9223372036854775807 := by decide
  exact w64_eq (by omega) (by omega)
end Mir
