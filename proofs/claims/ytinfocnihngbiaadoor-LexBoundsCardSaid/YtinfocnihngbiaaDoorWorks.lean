/- The chapter's first text. Asked: strconv's ErrRange is laid. -/
import Derived.Test.YtinfocnihngbiaaDoorLexO
import Derived.Test.YtinfocnihngbiaaDoorLexC
import Derived.Test.YtinfocnihngbiaaDoorName
namespace Go.Proofs.YtinfocnihngbiaaDoor
open Go.RowKit

set_option maxRecDepth 100000 in
set_option maxHeartbeats 4000000 in
theorem works_any (w : World) (hE : ErrR w) : Calls Tryd.prog 10 #[] w fun e w' => e = .returned (.bool true) ∧ Below w.heap.size w w' := by
  have c1 := lex_out sW1 w hE
  rw [lexW1] at c1
  go_enter Tryd.func10, Tryd.ntmps10
  go_wp2_with fail
  refine c1.mono ?_
  rintro e w1 ⟨a, cap, rfl, hO1, hb1⟩
  clear c1
  have hE1 := hE.below hb1 hE.1
  have hA : Ps (w1.alloc (.cells #[.int .i64 0, .int .i64 0] 25)) w1.heap.size (0, 0) := World.alloc_heap_new _ _
  have hBA : Below w1.heap.size w1 (w1.alloc (.cells #[.int .i64 0, .int .i64 0] 25)) := (Below.refl _ w1).alloc (Nat.le_refl _) _
  have hB2 := hb1.trans (hBA.mono hb1.size)
  have hE2 := hE1.below hBA hE1.1
  have hO2 := hO1.below hBA
  clear hb1 hE1 hBA hO1
  go_wp2_with fail
  change Calls _ _ _ (w1.alloc (.cells #[.int .i64 0, .int .i64 0] 25)) _
  generalize hwA : w1.alloc (.cells #[.int .i64 0, .int .i64 0] 25) = wA at *
  have hszA : wA.heap.size = w1.heap.size + 1 := by rw [← hwA]; simp
  obtain ⟨ba, hba⟩ : ∃ ba, w1.heap.size = ba := ⟨_, rfl⟩
  rw [hba] at hA hszA ⊢
  clear hwA hba
  have hlta : ba < wA.heap.size := by omega
  clear hszA
  have c2 := lex_out sW2 wA hE2
  rw [lexW2] at c2
  refine c2.mono ?_
  rintro e w3 ⟨a2, cap2, rfl, hO3, hb3⟩
  clear c2
  have hO4 := hO2.below hb3
  have hA3 := hA.below hb3 hA.lt
  have hE3 := hE2.below hb3 hE2.1
  have hB3 := hB2.trans (hb3.mono hB2.size)
  have hC : Ps (w3.alloc (.cells #[.int .i64 1, .int .i64 3] 25)) w3.heap.size (1, 3) := World.alloc_heap_new _ _
  have hB4 := hB3.alloc hB3.size (.cells #[.int .i64 1, .int .i64 3] 25)
  have hA4 := hA3.alloc (.cells #[.int .i64 1, .int .i64 3] 25)
  have hW := hO4.wds.alloc (.cells #[.int .i64 1, .int .i64 3] 25)
  obtain ⟨b, off, rfl, x0, x1, x2, x3, x4⟩ := hW 4 (by decide)
  go_wp2_with fail
  change Calls _ _ _ (w3.alloc (.cells #[.int .i64 1, .int .i64 3] 25)) _
  obtain ⟨bc, hbc⟩ : ∃ bc, w3.heap.size = bc := ⟨_, rfl⟩
  rw [hbc] at hC ⊢
  generalize w3.alloc (.cells #[.int .i64 1, .int .i64 3] 25) = W at *
  have hlc := hO4.lc
  have hmx := hO4.mx
  unfold maxLen at hmx
  replace hlc : 6 ≤ cap := hlc
  have y0 : W.cell? ⟨b, off + 20, none⟩ = some (.int .i64 2) := x0
  have y1 : W.cell? ⟨b, off + 20 + 1, none⟩ = some (.string ⟨#[55]⟩) := x1
  have y2 : W.cell? ⟨b, off + 20 + 2, none⟩ = some (.int .i64 7) := x2
  have y3 : W.cell? ⟨b, off + 20 + 3, none⟩ = some (.int .i64 1) := x3
  have y4 : W.cell? ⟨b, off + 20 + 4, none⟩ = some (.int .i64 9) := x4
  have a0 : W.cell? ⟨ba, 0, none⟩ = some (.int .i64 0) := hA4.c0
  have a1 : W.cell? ⟨ba, 1, none⟩ = some (.int .i64 0) := hA4.c1
  have b0 : W.cell? ⟨bc, 0, none⟩ = some (.int .i64 1) := hC.c0
  have b1 : W.cell? ⟨bc, 1, none⟩ = some (.int .i64 3) := hC.c1
  have q1 := eqp_any 0 0 0 0
  have q2 := eqp_any 1 3 1 3
  have q3 := eqw_run ⟨2, ⟨#[55]⟩, 7, 1, 9⟩ ⟨2, ⟨#[55]⟩, 7, 1, 9⟩
  unfold Wd.val at q3
  clear x0 x1 x2 x3 x4 hW hA4 hC hO2 hO4 hO3 hA hA3 hb3 hbc
  refine (num_any 0 W).mono ?_
  rintro e w' ⟨rfl, rfl⟩
  go_wp2_with (go_at_call 14; refine (num_any _ _).mono ?_; rintro e w' ⟨rfl, rfl⟩)
  go_ret
  exact ⟨rfl, hB4⟩
end Go.Proofs.YtinfocnihngbiaaDoor
