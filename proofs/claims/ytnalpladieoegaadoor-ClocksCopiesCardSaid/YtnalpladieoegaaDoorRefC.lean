/- The document's Step. Asked: the list of the threads' clocks lies there. -/
import Derived.Test.YtnalpladieoegaaDoorRefB
import Derived.Test.YtnalpladieoegaaDoorTick
namespace Go.Proofs.YtnalpladieoegaaDoor
open Go.RowKit Go.Shelf

abbrev sn : Value := .slice none 0 0
/-- The three boxes that Step begins with. -/
abbrev stepW (w : World) (S1 S2 : Value) : World := ((w.alloc (.cells #[S1, S2] 41)).alloc (.cells #[sn, sn] 41)).alloc (.cells (cl z0) 23)
theorem stepW_below (w : World) (S1 S2 : Value) : Below w.heap.size w (stepW w S1 S2) :=
  (((Below.refl _ w).alloc (Nat.le_refl _) _).alloc (by simp) _).alloc (by simp; omega) _
theorem stepW_a (w : World) (S1 S2 : Value) : Bx (stepW w S1 S2) w.heap.size S1 S2 := ((Bx.new w S1 S2).alloc _).alloc _
theorem stepW_b (w : World) (S1 S2 : Value) : Bx (stepW w S1 S2) (w.heap.size + 1) sn sn := by
  have := Bx.new (w.alloc (.cells #[S1, S2] 41)) sn sn
  rw [World.size_alloc] at this
  exact this.alloc _
theorem stepW_c (w : World) (S1 S2 : Value) : Blk (stepW w S1 S2) (w.heap.size + 1 + 1) 23 z0 := by
  have := Blk.new ((w.alloc (.cells #[S1, S2] 41)).alloc (.cells #[sn, sn] 41)) 23 z0
  simp only [World.size_alloc] at this
  exact this
/-- Both results stored. -/
theorem step_ends {w W : World} {b : Nat} {s1 s2 : Value} {d : Ck} (hB : Below w.heap.size w W) (hD : Bx W b s1 s2) (hC : Blk W (b + 1) 23 d) (u v : Value) (c : Ck) (h1 : w.heap.size ≤ b) (_h2 : b < W.heap.size) :
    Bx (st8b ((W.setCell ⟨b, 0, none⟩ u).setCell ⟨b, 1, none⟩ v) (b + 1) c) b u v ∧ Blk (st8b ((W.setCell ⟨b, 0, none⟩ u).setCell ⟨b, 1, none⟩ v) (b + 1) c) (b + 1) 23 c ∧
      Below w.heap.size w (st8b ((W.setCell ⟨b, 0, none⟩ u).setCell ⟨b, 1, none⟩ v) (b + 1) c) := by
  have hC1 : Blk ((W.setCell ⟨b, 0, none⟩ u).setCell ⟨b, 1, none⟩ v) (b + 1) 23 d := hC.kept (set2_grown W b u v) (nesome (by omega))
  have hB1 : Below w.heap.size w ((W.setCell ⟨b, 0, none⟩ u).setCell ⟨b, 1, none⟩ v) := hB.grown (set2_grown W b u v) hB.size (fun k e => by cases e; exact h1)
  have hD1 := hD.set2 u v
  generalize (W.setCell ⟨b, 0, none⟩ u).setCell ⟨b, 1, none⟩ v = W1 at *
  exact ⟨hD1.kept (st8b_grown W1 (b + 1) c) (nesome (by omega)), hC1.set8 c, hB1.grown (st8b_grown W1 (b + 1) c) hB1.size (fun k e => by cases e; omega)⟩

set_option maxRecDepth 100000 in
set_option maxHeartbeats 2000000 in
theorem rstep_out (w : World) (g1 n1 k1 : Nat) (q2 m2 c2 : Nat) (t : Int) (ht : t < 0 ∨ (n1 : Int) ≤ t) :
    Calls Tryd.prog 28 #[.agg #[.slice (some ⟨g1, 0, none⟩) n1 k1, .slice (some ⟨q2, 0, none⟩) m2 c2], .int .i64 t] w fun e w' => e = .returned (.tuple #[.agg #[.slice (some ⟨g1, 0, none⟩) n1 k1, .slice (some ⟨q2, 0, none⟩) m2 c2], .agg (cl z0), .int .i64 4]) ∧ Below w.heap.size w w' := by
  have hB := stepW_below w (.slice (some ⟨g1, 0, none⟩) n1 k1) (.slice (some ⟨q2, 0, none⟩) m2 c2)
  have hA := stepW_a w (.slice (some ⟨g1, 0, none⟩) n1 k1) (.slice (some ⟨q2, 0, none⟩) m2 c2)
  have hD := stepW_b w (.slice (some ⟨g1, 0, none⟩) n1 k1) (.slice (some ⟨q2, 0, none⟩) m2 c2)
  have hC := stepW_c w (.slice (some ⟨g1, 0, none⟩) n1 k1) (.slice (some ⟨q2, 0, none⟩) m2 c2)
  have a0 := hA.c0
  have a1 := hA.c1
  have d0 := hD.c0
  have d1 := hD.c1
  have df0 := hD.frozen 0
  have df1 := hD.frozen 1
  have x0 := hC.cell (k := 0) (by decide)
  have x1 := hC.cell (k := 1) (by decide)
  have x2 := hC.cell (k := 2) (by decide)
  have x3 := hC.cell (k := 3) (by decide)
  have x4 := hC.cell (k := 4) (by decide)
  have x5 := hC.cell (k := 5) (by decide)
  have x6 := hC.cell (k := 6) (by decide)
  have x7 := hC.cell (k := 7) (by decide)
  have f0 := hC.frozen 0
  have f1 := hC.frozen 1
  have f2 := hC.frozen 2
  have f3 := hC.frozen 3
  have f4 := hC.frozen 4
  have f5 := hC.frozen 5
  have f6 := hC.frozen 6
  have f7 := hC.frozen 7
  go_enter Tryd.func28, Tryd.ntmps28
  go_wp2_with fail
  change Calls _ _ _ (stepW w (.slice (some ⟨g1, 0, none⟩) n1 k1) (.slice (some ⟨q2, 0, none⟩) m2 c2)) _
  generalize stepW w (.slice (some ⟨g1, 0, none⟩) n1 k1) (.slice (some ⟨q2, 0, none⟩) m2 c2) = W0 at *
  refine (in_no _ g1 n1 k1 t ht).mono ?_
  rintro e w' ⟨rfl, rfl⟩
  go_wp2
  obtain ⟨hD2, hC2, hB2⟩ := step_ends hB hD hC (.slice (some ⟨g1, 0, none⟩) n1 k1) (.slice (some ⟨q2, 0, none⟩) m2 c2) z0 (Nat.le_succ _) hD.lt
  refine end_wct (c := z0) hD2 hC2 rfl rfl rfl rfl rfl ?_
  exact ⟨rfl, hB2⟩

set_option maxRecDepth 100000 in
set_option maxHeartbeats 2000000 in
theorem rstep_bad {w : World} {g1 k1 : Nat} {th : List Ck} (hR : RL w g1 k1 th) (q2 m2 c2 : Nat) {i : Nat} (hi : i < th.length) {d : Ck} {n : Int} (hT : tk (at_ th i) i = (d, n)) (hz : (n != 0) = true) :
    Calls Tryd.prog 28 #[.agg #[.slice (some ⟨g1, 0, none⟩) th.length k1, .slice (some ⟨q2, 0, none⟩) m2 c2], .int .i64 (i : Int)] w fun e w' => e = .returned (.tuple #[.agg #[.slice (some ⟨g1, 0, none⟩) th.length k1, .slice (some ⟨q2, 0, none⟩) m2 c2], .agg (cl z0), .int .i64 n]) ∧ Below w.heap.size w w' := by
  obtain ⟨hm1, hP⟩ := hR
  have hB := stepW_below w (.slice (some ⟨g1, 0, none⟩) th.length k1) (.slice (some ⟨q2, 0, none⟩) m2 c2)
  have hA := stepW_a w (.slice (some ⟨g1, 0, none⟩) th.length k1) (.slice (some ⟨q2, 0, none⟩) m2 c2)
  have hD := stepW_b w (.slice (some ⟨g1, 0, none⟩) th.length k1) (.slice (some ⟨q2, 0, none⟩) m2 c2)
  have hC := stepW_c w (.slice (some ⟨g1, 0, none⟩) th.length k1) (.slice (some ⟨q2, 0, none⟩) m2 c2)
  have hP0 : PRow (stepW w (.slice (some ⟨g1, 0, none⟩) th.length k1) (.slice (some ⟨q2, 0, none⟩) m2 c2)) g1 23 th k1 := hP.of (hB.block g1 hP.lt)
  have hcT : ∀ w, Calls Tryd.prog 13 #[.agg (cl (at_ th i)), .int .i64 (i : Int)] w fun e w' => e = .returned (.tuple #[.agg (cl d), .int .i64 n]) ∧ Below w.heap.size w w' := fun w => by
    have := rtick_any (at_ th i) i w
    rw [hT] at this
    exact this
  clear hT
  go_enter Tryd.func28, Tryd.ntmps28
  go_wp2_with fail
  change Calls _ _ _ (stepW w (.slice (some ⟨g1, 0, none⟩) th.length k1) (.slice (some ⟨q2, 0, none⟩) m2 c2)) _
  generalize stepW w (.slice (some ⟨g1, 0, none⟩) th.length k1) (.slice (some ⟨q2, 0, none⟩) m2 c2) = W0 at *
  have a0 := hA.c0
  have a1 := hA.c1
  have r0 := hP0.cell (j := 0) hi (by decide)
  have r1 := hP0.cell (j := 1) hi (by decide)
  have r2 := hP0.cell (j := 2) hi (by decide)
  have r3 := hP0.cell (j := 3) hi (by decide)
  have r4 := hP0.cell (j := 4) hi (by decide)
  have r5 := hP0.cell (j := 5) hi (by decide)
  have r6 := hP0.cell (j := 6) hi (by decide)
  have r7 := hP0.cell (j := 7) hi (by decide)
  rw [Nat.add_zero] at r0
  refine (in_yes _ g1 th.length k1 (i : Int) (by omega) (by omega)).mono ?_
  rintro e w' ⟨rfl, rfl⟩
  go_wp2_with fail
  refine (hcT _).mono ?_
  rintro e w1 ⟨rfl, hb⟩
  have hA1 := (hA.belowS hb).alloc (.cells (cl d) 23)
  have hD1 := (hD.belowS hb).alloc (.cells (cl d) 23)
  have hC1 := (hC.below hb hC.lt).alloc (.cells (cl d) 23)
  have hP1 : PRow w1 g1 23 th k1 := hP0.of (hb.block g1 hP0.lt)
  have hB1 : Below w.heap.size w w1 := hB.trans (hb.mono hB.size)
  have hB2 := hB1.alloc hB1.size (.cells (cl d) 23)
  have hE := Blk.new w1 23 d
  have hP2 : PRow (w1.alloc (.cells (cl d) 23)) g1 23 th k1 := hP1.of ((World.grownBy_alloc w1 (.cells (cl d) 23) none).block g1 hP1.lt (by simp))
  have hs1 : w.heap.size + 1 + 1 < w1.heap.size := Nat.lt_of_lt_of_le hC.lt hb.size
  clear hb hP0 hP1 hA hD hC hB hB1
  clear a0 a1
  clear r0 r1 r2 r3 r4 r5 r6 r7
  obtain ⟨s1, hs⟩ : ∃ s, w1.heap.size = s := ⟨_, rfl⟩
  rw [hs] at hE hs1
  have a0 := hA1.c0
  have a1 := hA1.c1
  have d0 := hD1.c0
  have d1 := hD1.c1
  have df0 := hD1.frozen 0
  have df1 := hD1.frozen 1
  have x0 := hC1.cell (k := 0) (by decide)
  have x1 := hC1.cell (k := 1) (by decide)
  have x2 := hC1.cell (k := 2) (by decide)
  have x3 := hC1.cell (k := 3) (by decide)
  have x4 := hC1.cell (k := 4) (by decide)
  have x5 := hC1.cell (k := 5) (by decide)
  have x6 := hC1.cell (k := 6) (by decide)
  have x7 := hC1.cell (k := 7) (by decide)
  have f0 := hC1.frozen 0
  have f1 := hC1.frozen 1
  have f2 := hC1.frozen 2
  have f3 := hC1.frozen 3
  have f4 := hC1.frozen 4
  have f5 := hC1.frozen 5
  have f6 := hC1.frozen 6
  have f7 := hC1.frozen 7
  go_wp2
  obtain ⟨hD3, hC3, hB3⟩ := step_ends hB2 hD1 hC1 (.slice (some ⟨g1, 0, none⟩) th.length k1) (.slice (some ⟨q2, 0, none⟩) m2 c2) z0 (Nat.le_succ _) hD1.lt
  refine end_wct (c := z0) hD3 hC3 rfl rfl rfl rfl rfl ?_
  exact ⟨rfl, hB3⟩

set_option maxRecDepth 100000 in
set_option maxHeartbeats 4000000 in
theorem rstep_ok {w : World} {g1 k1 : Nat} {th : List Ck} (hR : RL w g1 k1 th) (q2 m2 c2 : Nat) {i : Nat} (hi : i < th.length) (hn8 : th.length ≤ 8) {d : Ck} (hT : tk (at_ th i) i = (d, 0)) :
    Calls Tryd.prog 28 #[.agg #[.slice (some ⟨g1, 0, none⟩) th.length k1, .slice (some ⟨q2, 0, none⟩) m2 c2], .int .i64 (i : Int)] w fun e w' => ∃ g2 k2, e = .returned (.tuple #[.agg #[.slice (some ⟨g2, 0, none⟩) th.length k2, .slice (some ⟨q2, 0, none⟩) m2 c2], .agg (cl d), .int .i64 0]) ∧
      RL w' g2 k2 (th.set i d) ∧ Below w.heap.size w w' ∧ w.heap.size ≤ g2 := by
  obtain ⟨hm1, hP⟩ := hR
  have hB := stepW_below w (.slice (some ⟨g1, 0, none⟩) th.length k1) (.slice (some ⟨q2, 0, none⟩) m2 c2)
  have hA := stepW_a w (.slice (some ⟨g1, 0, none⟩) th.length k1) (.slice (some ⟨q2, 0, none⟩) m2 c2)
  have hD := stepW_b w (.slice (some ⟨g1, 0, none⟩) th.length k1) (.slice (some ⟨q2, 0, none⟩) m2 c2)
  have hC := stepW_c w (.slice (some ⟨g1, 0, none⟩) th.length k1) (.slice (some ⟨q2, 0, none⟩) m2 c2)
  have hP0 : PRow (stepW w (.slice (some ⟨g1, 0, none⟩) th.length k1) (.slice (some ⟨q2, 0, none⟩) m2 c2)) g1 23 th k1 := hP.of (hB.block g1 hP.lt)
  have hcT : ∀ w, Calls Tryd.prog 13 #[.agg (cl (at_ th i)), .int .i64 (i : Int)] w fun e w' => e = .returned (.tuple #[.agg (cl d), .int .i64 0]) ∧ Below w.heap.size w w' := fun w => by
    have := rtick_any (at_ th i) i w
    rw [hT] at this
    exact this
  clear hT
  go_enter Tryd.func28, Tryd.ntmps28
  go_wp2_with fail
  change Calls _ _ _ (stepW w (.slice (some ⟨g1, 0, none⟩) th.length k1) (.slice (some ⟨q2, 0, none⟩) m2 c2)) _
  generalize stepW w (.slice (some ⟨g1, 0, none⟩) th.length k1) (.slice (some ⟨q2, 0, none⟩) m2 c2) = W0 at *
  have a0 := hA.c0
  have a1 := hA.c1
  have r0 := hP0.cell (j := 0) hi (by decide)
  have r1 := hP0.cell (j := 1) hi (by decide)
  have r2 := hP0.cell (j := 2) hi (by decide)
  have r3 := hP0.cell (j := 3) hi (by decide)
  have r4 := hP0.cell (j := 4) hi (by decide)
  have r5 := hP0.cell (j := 5) hi (by decide)
  have r6 := hP0.cell (j := 6) hi (by decide)
  have r7 := hP0.cell (j := 7) hi (by decide)
  rw [Nat.add_zero] at r0
  refine (in_yes _ g1 th.length k1 (i : Int) (by omega) (by omega)).mono ?_
  rintro e w' ⟨rfl, rfl⟩
  go_wp2_with fail
  refine (hcT _).mono ?_
  rintro e w1 ⟨rfl, hb⟩
  have hA1 := (hA.belowS hb).alloc (.cells (cl d) 23)
  have hD1 := (hD.belowS hb).alloc (.cells (cl d) 23)
  have hC1 := (hC.below hb hC.lt).alloc (.cells (cl d) 23)
  have hP1 : PRow w1 g1 23 th k1 := hP0.of (hb.block g1 hP0.lt)
  have hB1 : Below w.heap.size w w1 := hB.trans (hb.mono hB.size)
  have hB2 := hB1.alloc hB1.size (.cells (cl d) 23)
  have hE := Blk.new w1 23 d
  have hP2 : PRow (w1.alloc (.cells (cl d) 23)) g1 23 th k1 := hP1.of ((World.grownBy_alloc w1 (.cells (cl d) 23) none).block g1 hP1.lt (by simp))
  have hs1 : w.heap.size + 1 + 1 < w1.heap.size := Nat.lt_of_lt_of_le hC.lt hb.size
  clear hb hP0 hP1 hA hD hC hB hB1
  clear a0 a1
  clear r0 r1 r2 r3 r4 r5 r6 r7
  have a0 := hA1.c0
  have a1 := hA1.c1
  have y0 := hE.cell (k := 0) (by decide)
  have y1 := hE.cell (k := 1) (by decide)
  have y2 := hE.cell (k := 2) (by decide)
  have y3 := hE.cell (k := 3) (by decide)
  have y4 := hE.cell (k := 4) (by decide)
  have y5 := hE.cell (k := 5) (by decide)
  have y6 := hE.cell (k := 6) (by decide)
  have y7 := hE.cell (k := 7) (by decide)
  go_wp2_with fail
  change Calls _ _ _ (w1.alloc (.cells (cl d) 23)) _
  have hR2 : RL (w1.alloc (.cells (cl d) 23)) g1 k1 th := ⟨hm1, hP2⟩
  obtain ⟨s1, hs⟩ : ∃ s, w1.heap.size = s := ⟨_, rfl⟩
  rw [hs] at hE hs1 ⊢
  have hlt2 : w.heap.size + 1 + 1 < (w1.alloc (.cells (cl d) 23)).heap.size := by rw [World.size_alloc, hs]; omega
  generalize w1.alloc (.cells (cl d) 23) = W2 at *
  refine (set_in hR2 hi d (by omega)).mono ?_
  rintro e w3 ⟨g2, k2, rfl, hR3, hb3, hge⟩
  have hA3 := hA1.belowS hb3
  have hD3 := hD1.belowS hb3
  have hC3 := hC1.below hb3 hC1.lt
  have hE3 := hE.below hb3 hE.lt
  have hB3 : Below w.heap.size w w3 := hB2.trans (hb3.mono hB2.size)
  have hg2 := hR3.lt
  clear a0 a1 hb3 hR2 hP2 hA1 hD1 hC1 hE hB2
  clear y0 y1 y2 y3 y4 y5 y6 y7
  have a0 := hA3.c0
  have a1 := hA3.c1
  have af0 := hA3.frozen 0
  go_wp2_with fail
  have hA4 := hA3.set0 (.slice (some ⟨g2, 0, none⟩) th.length k2)
  have hD4 := hD3.other (b' := w.heap.size) (by omega) 0 (.slice (some ⟨g2, 0, none⟩) th.length k2)
  have hC4 := hC3.other (b' := w.heap.size) (by omega) 0 (.slice (some ⟨g2, 0, none⟩) th.length k2)
  have hE4 := hE3.other (b' := w.heap.size) (by omega) 0 (.slice (some ⟨g2, 0, none⟩) th.length k2)
  have hg4 := grown_set w3 w.heap.size 0 (.slice (some ⟨g2, 0, none⟩) th.length k2)
  have hR4 := hR3.kept hg4 (nesome (by omega))
  have hB4 : Below w.heap.size w _ := hB3.grown hg4 hB3.size (fun k e => by cases e; exact Nat.le_refl _)
  clear a0 a1 af0 hA3 hD3 hC3 hE3 hR3 hB3 hg4
  generalize w3.setCell ⟨w.heap.size, 0, none⟩ (.slice (some ⟨g2, 0, none⟩) th.length k2) = W4 at *
  have a0 := hA4.c0
  have a1 := hA4.c1
  have d0 := hD4.c0
  have d1 := hD4.c1
  have df0 := hD4.frozen 0
  have df1 := hD4.frozen 1
  have x0 := hC4.cell (k := 0) (by decide)
  have x1 := hC4.cell (k := 1) (by decide)
  have x2 := hC4.cell (k := 2) (by decide)
  have x3 := hC4.cell (k := 3) (by decide)
  have x4 := hC4.cell (k := 4) (by decide)
  have x5 := hC4.cell (k := 5) (by decide)
  have x6 := hC4.cell (k := 6) (by decide)
  have x7 := hC4.cell (k := 7) (by decide)
  have f0 := hC4.frozen 0
  have f1 := hC4.frozen 1
  have f2 := hC4.frozen 2
  have f3 := hC4.frozen 3
  have f4 := hC4.frozen 4
  have f5 := hC4.frozen 5
  have f6 := hC4.frozen 6
  have f7 := hC4.frozen 7
  have y0 := hE4.cell (k := 0) (by decide)
  have y1 := hE4.cell (k := 1) (by decide)
  have y2 := hE4.cell (k := 2) (by decide)
  have y3 := hE4.cell (k := 3) (by decide)
  have y4 := hE4.cell (k := 4) (by decide)
  have y5 := hE4.cell (k := 5) (by decide)
  have y6 := hE4.cell (k := 6) (by decide)
  have y7 := hE4.cell (k := 7) (by decide)
  go_region
  all_goals go_wp2
  obtain ⟨hD5, hC5, hB5⟩ := step_ends hB4 hD4 hC4 (.slice (some ⟨g2, 0, none⟩) th.length k2) (.slice (some ⟨q2, 0, none⟩) m2 c2) d (Nat.le_succ _) hD4.lt
  have hR5 := (hR4.kept (set2_grown W4 (w.heap.size + 1) (.slice (some ⟨g2, 0, none⟩) th.length k2) (.slice (some ⟨q2, 0, none⟩) m2 c2)) (nesome (by omega)))
  have hR6 := hR5.kept (st8b_grown ((W4.setCell ⟨w.heap.size + 1, 0, none⟩ (.slice (some ⟨g2, 0, none⟩) th.length k2)).setCell ⟨w.heap.size + 1, 1, none⟩ (.slice (some ⟨q2, 0, none⟩) m2 c2)) (w.heap.size + 1 + 1) d) (nesome (by omega))
  refine end_wct (c := d) hD5.drew hC5.drew rfl rfl rfl rfl rfl ?_
  exact ⟨g2, k2, rfl, hR6.drew, hB5.drew, by omega⟩
end Go.Proofs.YtnalpladieoegaaDoor
