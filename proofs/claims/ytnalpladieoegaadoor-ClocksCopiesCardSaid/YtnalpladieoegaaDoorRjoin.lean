/- The reference's join of two clocks. No condition. -/
import Derived.Test.YtnalpladieoegaaDoorEnds
namespace Go.Proofs.YtnalpladieoegaaDoor
open Go.RowKit Go.Shelf

/-- The join when the first k parts are done. -/
def jk (a b : Ck) (k : Nat) : Ck := fun i => if i < k then max (a i) (b i) else a i
theorem jk_0 (a b : Ck) : jk a b 0 = a := by funext i; simp [jk]
theorem jk_at (a b : Ck) (k : Nat) : jk a b k k = a k := by simp [jk]
theorem jk_yes {a b : Ck} {k : Nat} (h : a k < b k) : upd (jk a b k) k (b k) = jk a b (k + 1) := by
  funext i
  unfold upd jk
  by_cases e : i = k
  · subst e
    rw [if_pos rfl, if_pos (by omega)]
    omega
  · rw [if_neg e]
    by_cases h2 : i < k
    · rw [if_pos h2, if_pos (by omega)]
    · rw [if_neg h2, if_neg (by omega)]
theorem jk_no {a b : Ck} {k : Nat} (h : ¬ a k < b k) : jk a b k = jk a b (k + 1) := by
  funext i
  unfold jk
  by_cases e : i = k
  · subst e
    rw [if_neg (by omega), if_pos (by omega)]
    omega
  · by_cases h2 : i < k
    · rw [if_pos h2, if_pos (by omega)]
    · rw [if_neg h2, if_neg (by omega)]

set_option maxHeartbeats 1000000 in
theorem rjoin_any (a b : Ck) (w : World) : Calls Tryd.prog 19 #[.agg (cl a), .agg (cl b)] w fun e w' => e = .returned (.agg (cl (jn a b))) ∧ Below w.heap.size w w' := by
  have hA := ((Blk.new w 23 a).alloc (.cells (cl b) 23)).alloc (.cells (cl z0) 23)
  have hb := (Blk.new (w.alloc (.cells (cl a) 23)) 23 b).alloc (.cells (cl z0) 23)
  have hr := Blk.new ((w.alloc (.cells (cl a) 23)).alloc (.cells (cl b) 23)) 23 z0
  simp only [World.size_alloc] at hb hr
  have hB : Below w.heap.size w (((w.alloc (.cells (cl a) 23)).alloc (.cells (cl b) 23)).alloc (.cells (cl z0) 23)) := (((Below.refl _ w).alloc (Nat.le_refl _) _).alloc (by simp) _).alloc (by simp; omega) _
  go_enter Tryd.func19, Tryd.ntmps19
  go_wp2
  change Code.wp _ _ _ _ (((w.alloc (.cells (cl a) 23)).alloc (.cells (cl b) 23)).alloc (.cells (cl z0) 23))
  generalize ((w.alloc (.cells (cl a) 23)).alloc (.cells (cl b) 23)).alloc (.cells (cl z0) 23) = W at *
  go_loopw [5] (fun i wr => ∃ k : Nat, k ≤ 8 ∧ i = .int .i64 k ∧ Blk wr w.heap.size 23 (jk a b k) ∧ Blk wr (w.heap.size + 1) 23 b ∧ Blk wr (w.heap.size + 1 + 1) 23 z0 ∧ Below w.heap.size w wr) (fun i _ => 8 - (intOf i).toNat)
  case atStart => exact ⟨0, by omega, rfl, by rw [jk_0]; exact hA, hb, hr, hB⟩
  case round =>
    obtain ⟨k, hk, rfl, hA, hb, hr, hB⟩ := hrel
    by_cases hlt : k < 8
    · have hca : wr.cell? ⟨w.heap.size, k, none⟩ = some (.int .i64 (a k)) := by rw [← jk_at a b k]; exact hA.cell hlt
      have hcb := hb.cell hlt
      have hfa := hA.frozen k
      have hp0 : (0 : Int) ≤ (k : Int) := by omega
      have hp1 : (k : Int) < 8 := by omega
      by_cases h0 : a k < b k
      · go_wp2
        go_quiet (fail)
        go_wp2
        go_roundw
        case rel =>
          refine ⟨k + 1, by omega, by go_num, ?_, ?_, ?_, ?_⟩
          · rw [← jk_yes h0]; exact Blk.set (w := wr.drewN _) hA hlt (b k)
          · exact Blk.other (w := wr.drewN _) hb (by omega) _ _
          · exact Blk.other (w := wr.drewN _) hr (by omega) _ _
          · exact (below_drewN hB _).setCell (p := ⟨w.heap.size, k, none⟩) (Nat.le_refl _) _
        case measure => simp [intOf]; omega
      · go_wp2
        go_quiet (fail)
        go_wp2
        go_roundw
        case rel => exact ⟨k + 1, by omega, by go_num, by rw [← jk_no (by omega : ¬ a k < b k)]; exact hA, hb, hr, below_drewN hB _⟩
        case measure => simp [intOf]; omega
    · obtain rfl : k = 8 := by omega
      have x0 := hA.cell (k := 0) (by decide)
      have x1 := hA.cell (k := 1) (by decide)
      have x2 := hA.cell (k := 2) (by decide)
      have x3 := hA.cell (k := 3) (by decide)
      have x4 := hA.cell (k := 4) (by decide)
      have x5 := hA.cell (k := 5) (by decide)
      have x6 := hA.cell (k := 6) (by decide)
      have x7 := hA.cell (k := 7) (by decide)
      have y0 := hr.cell (k := 0) (by decide)
      have g0 := hr.frozen 0
      have y1 := hr.cell (k := 1) (by decide)
      have g1 := hr.frozen 1
      have y2 := hr.cell (k := 2) (by decide)
      have g2 := hr.frozen 2
      have y3 := hr.cell (k := 3) (by decide)
      have g3 := hr.frozen 3
      have y4 := hr.cell (k := 4) (by decide)
      have g4 := hr.frozen 4
      have y5 := hr.cell (k := 5) (by decide)
      have g5 := hr.frozen 5
      have y6 := hr.cell (k := 6) (by decide)
      have g6 := hr.frozen 6
      have y7 := hr.cell (k := 7) (by decide)
      have g7 := hr.frozen 7
      go_wp2
      exact end_c23 (hr.set8 (jk a b 8)) rfl rfl rfl ⟨rfl, hB.grown (st8b_grown _ _ _) hB.size (fun k e => by cases e; omega)⟩
end Go.Proofs.YtnalpladieoegaaDoor
