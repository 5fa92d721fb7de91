/- What the syntax texts share, part 21. No condition. -/
import Derived.Test.YtjmlmelcppbefaaGreatDoorT02
namespace Go.Proofs.YtjmlmelcppbefaaGreatDoor
open Go.RowKit
theorem endOf_all (s : ByteArray) {k : Nat} (hk : k ≤ s.size) : endOf isAll s k = s.size := by
 unfold endOf
 have h : (s.data.toList.drop k).takeWhile isAll = s.data.toList.drop k := by induction s.data.toList.drop k with
  | nil => rfl
  | cons c l ih => rw [List.takeWhile_cons_of_pos rfl, ih]
 rw [h, List.length_drop, size_list]
 omega
set_option maxHeartbeats 1000000 in
theorem end_any (s : ByteArray) (w : World) (hs : s.size ≤ 4294967296) :
  Calls Tryz.prog 35 #[.string s] w fun e w' => e = .returned (.agg #[.int .i64 (posAt s s.size).1, .int .i64 (posAt s s.size).2]) ∧ Below w.heap.size w w' := by
 have hA : Ps ((w.alloc (.cells #[.int .i64 0, .int .i64 0] 25)).alloc (.cells #[.int .i64 1, .int .i64 1, .string s, .int .i64 0, .map none, .map none] 126)) w.heap.size (0, 0) := by
  have h : Ps (w.alloc (.cells #[.int .i64 0, .int .i64 0] 25)) w.heap.size (0, 0) := World.alloc_heap_new _ _
  exact h.alloc _
 have hB : Below w.heap.size w ((w.alloc (.cells #[.int .i64 0, .int .i64 0] 25)).alloc (.cells #[.int .i64 1, .int .i64 1, .string s, .int .i64 0, .map none, .map none] 126)) := ((Below.refl _ w).alloc (Nat.le_refl _) _).alloc (by simp) _
 have hR : Rd ((w.alloc (.cells #[.int .i64 0, .int .i64 0] 25)).alloc (.cells #[.int .i64 1, .int .i64 1, .string s, .int .i64 0, .map none, .map none] 126)) (w.heap.size + 1) s 0 (.map none) (.map none) := by
  have h : Rd ((w.alloc (.cells #[.int .i64 0, .int .i64 0] 25)).alloc (.cells #[.int .i64 1, .int .i64 1, .string s, .int .i64 0, .map none, .map none] 126)) (w.alloc (.cells #[.int .i64 0, .int .i64 0] 25)).heap.size s 0 (.map none) (.map none) := World.alloc_heap_new _ _
  rw [World.size_alloc] at h
  exact h
 go_enter Tryz.func35, Tryz.ntmps35
 go_wp2_with fail
 change Calls _ _ _ ((w.alloc (.cells #[.int .i64 0, .int .i64 0] 25)).alloc (.cells #[.int .i64 1, .int .i64 1, .string s, .int .i64 0, .map none, .map none] 126)) _
 generalize (w.alloc (.cells #[.int .i64 0, .int .i64 0] 25)).alloc (.cells #[.int .i64 1, .int .i64 1, .string s, .int .i64 0, .map none, .map none] 126) = W0 at *
 refine (pass_all hR (Nat.zero_le _) hs).mono ?_
 rintro e w1 ⟨rfl, hR1, hK⟩
 rw [endOf_all s (Nat.zero_le _)] at hR1
 have hA1 : Ps w1 w.heap.size (0, 0) := (hK.block _ hA.lt (by omega) (by omega)).trans hA
 have hB1 : Below w.heap.size w w1 := hK.to_below hB hB.size (by omega) (by omega)
 clear hA hB hK hR
 have a0 := hA1.c0
 have a1 := hA1.c1
 have g0 := hA1.frozen 0
 have g1 := hA1.frozen 1
 have b0 := hR1.c0
 have b1 := hR1.c1
 go_wp2
 refine end_p25 ((hA1.set0 (posAt s s.size).1).set1 (posAt s s.size).2) rfl rfl rfl ?_
 exact ⟨rfl, (hB1.setCell (p := ⟨w.heap.size, 0, none⟩) (Nat.le_refl _) _).setCell (p := ⟨w.heap.size, 1, none⟩) (Nat.le_refl _) _⟩
end Go.Proofs.YtjmlmelcppbefaaGreatDoor
