/- What the syntax texts share, part 36. No condition. -/
import Derived.Test.YtjmlmelcppbefaaGreatDoorT33
import Derived.Test.YtjmlmelcppbefaaGreatDoorT35
namespace Go.Proofs.YtjmlmelcppbefaaGreatDoor
open Go.RowKit Go.Maps
theorem noB_list : noB.toList = [] := by
 unfold noB
 rw [ByteArray.toList_eq]
end Go.Proofs.YtjmlmelcppbefaaGreatDoor
