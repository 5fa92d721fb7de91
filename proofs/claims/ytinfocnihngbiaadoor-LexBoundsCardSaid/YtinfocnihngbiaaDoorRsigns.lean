/- The document's signs. No condition. -/
import Derived.Test.YtinfocnihngbiaaDoorRnum
import Derived.Test.YtinfocnihngbiaaDoorRun
namespace Go.Proofs.YtinfocnihngbiaaDoor
open Go.RowKit

/-- The signs, in the document's order. -/
def rsL : List ByteArray := [⟨#[61, 61]⟩, ⟨#[33, 61]⟩, ⟨#[60, 61]⟩, ⟨#[38, 38]⟩, ⟨#[124, 124]⟩, ⟨#[59]⟩, ⟨#[40]⟩, ⟨#[41]⟩, ⟨#[123]⟩, ⟨#[125]⟩, ⟨#[91]⟩, ⟨#[93]⟩, ⟨#[61]⟩, ⟨#[60]⟩, ⟨#[43]⟩, ⟨#[45]⟩, ⟨#[42]⟩, ⟨#[47]⟩, ⟨#[37]⟩, ⟨#[33]⟩]

set_option maxRecDepth 100000 in
set_option maxHeartbeats 1000000 in
theorem rsigns_any (w : World) : Calls Tryd.prog 40 #[] w fun e w' => e = .returned (.slice (some ⟨w.heap.size, 0, none⟩) 20 20) ∧ w' = w.alloc (.cells (rsL.map Value.string).toArray 9) := by
  go_enter Tryd.func40, Tryd.ntmps40
  go_wp2
  go_ret
  exact ⟨rfl, rfl⟩
end Go.Proofs.YtinfocnihngbiaaDoor
