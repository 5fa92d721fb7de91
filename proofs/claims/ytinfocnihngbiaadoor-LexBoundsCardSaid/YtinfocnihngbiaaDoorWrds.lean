/- words: the iterator is made. No condition. -/
import Derived.Test.YtinfocnihngbiaaDoorWord4
namespace Go.Proofs.YtinfocnihngbiaaDoor
open Go.RowKit

set_option maxHeartbeats 400000 in
theorem words_any (b : Nat) (w : World) : Calls Tryd.prog 24 #[.pointer (some ⟨b, 0, none⟩)] w fun e w' => e = .returned (.func (.func 35) #[] #[.pointer (some ⟨w.heap.size, 0, none⟩)]) ∧ w' = w.alloc (.cells #[.pointer (some ⟨b, 0, none⟩)] 45) := by
  go_enter Tryd.func24, Tryd.ntmps24
  go_wp2
  go_ret
  exact ⟨rfl, rfl⟩
end Go.Proofs.YtinfocnihngbiaaDoor
