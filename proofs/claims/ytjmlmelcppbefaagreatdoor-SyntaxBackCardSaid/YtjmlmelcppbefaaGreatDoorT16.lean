/- What the syntax texts share, part 16. No condition. -/
import Derived.Test.YtjmlmelcppbefaaGreatDoorT14
import Derived.Test.YtjmlmelcppbefaaGreatDoorT04
namespace Go.Proofs.YtjmlmelcppbefaaGreatDoor
open Go.RowKit
end Go.Proofs.YtjmlmelcppbefaaGreatDoor
namespace Go.Proofs.YtjmlmelcppbefaaGreatDoor
open Go.RowKit
theorem next_let (s : ByteArray) (e : Nat) : (decide (e < s.size) && isLet (byte s e)) = ((s.data.toList.drop e).head?.any isLet) := by
 by_cases h : e < s.size
 ·rw [drop_byte h, decide_eq_true h]
  simp
 ·rw [decide_eq_false h, List.drop_eq_nil_of_le (by rw [size_list]; omega)]
  rfl
def mt (s : ByteArray) (k : Nat) (x : ByteArray) : Bool := decide (k + x.size ≤ s.size) && (s.extract k (k + x.size)).data.toList == x.data.toList
end Go.Proofs.YtjmlmelcppbefaaGreatDoor
namespace Go.Proofs.YtjmlmelcppbefaaGreatDoor
open Go.RowKit
end Go.Proofs.YtjmlmelcppbefaaGreatDoor
