/- The join of two clocks, by the program. No condition. -/
import Derived.Test.YtnalpladieoegaaDoorIter
import Derived.Test.YtnalpladieoegaaDoorRound
namespace Go.Proofs.YtnalpladieoegaaDoor
open Go.RowKit Go.Shelf
attribute [local go_sem] Oper.semAt_some

set_option maxHeartbeats 1000000 in
theorem step68_any (so : Ck) (k : Nat) (hk : k < 8) (x y : Int) (w : World) :
    Calls Tryd.prog 68 #[.agg (cl so), .int .i64 (k : Int), .int .i64 x, .int .i64 y] w fun e w' => e = .returned (.agg (cl (upd so k (max x y)))) ∧ Below w.heap.size w w' := by
  by_cases hxy : x < y
  · have hm : max x y = y := by omega
    rw [hm]
    clear hm
    rcases lt8 hk with rfl | rfl | rfl | rfl | rfl | rfl | rfl | rfl
    all_goals
      go_enter Tryd.func68, Tryd.ntmps68
      go_wp2
      refine bodyPost_ret (by simp [results, Tryd.results68, go_sem]; rfl) rfl ⟨?_, ?_⟩
      · rfl
      · exact ((Below.refl _ _).alloc (Nat.le_refl _) _).alloc (by simp) _
  · have hm : max x y = x := by omega
    rw [hm]
    clear hm
    rcases lt8 hk with rfl | rfl | rfl | rfl | rfl | rfl | rfl | rfl
    all_goals
      go_enter Tryd.func68, Tryd.ntmps68
      go_wp2
      refine bodyPost_ret (by simp [results, Tryd.results68, go_sem]; rfl) rfl ⟨?_, ?_⟩
      · rfl
      · exact ((Below.refl _ _).alloc (Nat.le_refl _) _).alloc (by simp) _
end Go.Proofs.YtnalpladieoegaaDoor
