/- The document's Move. Asked: the lists lie there. -/
import Derived.Test.YtnalpladieoegaaDoorRefC
import Derived.Test.YtnalpladieoegaaDoorRjoin
import Derived.Test.YtnalpladieoegaaDoorRound
namespace Go.Proofs.YtnalpladieoegaaDoor
open Go.RowKit Go.Shelf

/-- The two boxes that Move begins with. -/
abbrev moveW (w : World) (S1 S2 : Value) : World := (w.alloc (.cells #[S1, S2] 41)).alloc (.cells #[sn, sn] 41)
theorem moveW_below (w : World) (S1 S2 : Value) : Below w.heap.size w (moveW w S1 S2) := ((Below.refl _ w).alloc (Nat.le_refl _) _).alloc (by simp) _
theorem moveW_a (w : World) (S1 S2 : Value) : Bx (moveW w S1 S2) w.heap.size S1 S2 := (Bx.new w S1 S2).alloc _
theorem moveW_b (w : World) (S1 S2 : Value) : Bx (moveW w S1 S2) (w.heap.size + 1) sn sn := by
  have := Bx.new (w.alloc (.cells #[S1, S2] 41)) sn sn
  rw [World.size_alloc] at this
  exact this

set_option maxRecDepth 100000 in
set_option maxHeartbeats 2000000 in
theorem rmove_no (w : World) (g1 n1 k1 g2 n2 k2 : Nat) (a t j : Int) (ht : t < 0 ∨ (n1 : Int) ≤ t) :
    Calls Tryd.prog 56 #[.agg #[.slice (some ⟨g1, 0, none⟩) n1 k1, .slice (some ⟨g2, 0, none⟩) n2 k2], .int .i64 a, .int .i64 t, .int .i64 j] w fun e w' => e = .returned (.tuple #[.agg #[.slice (some ⟨g1, 0, none⟩) n1 k1, .slice (some ⟨g2, 0, none⟩) n2 k2], .int .i64 4]) ∧ Below w.heap.size w w' := by
  have hB := moveW_below w (.slice (some ⟨g1, 0, none⟩) n1 k1) (.slice (some ⟨g2, 0, none⟩) n2 k2)
  have hA := moveW_a w (.slice (some ⟨g1, 0, none⟩) n1 k1) (.slice (some ⟨g2, 0, none⟩) n2 k2)
  have hD := moveW_b w (.slice (some ⟨g1, 0, none⟩) n1 k1) (.slice (some ⟨g2, 0, none⟩) n2 k2)
  go_enter Tryd.func56, Tryd.ntmps56
  go_wp2_with fail
  change Calls _ _ _ (moveW w (.slice (some ⟨g1, 0, none⟩) n1 k1) (.slice (some ⟨g2, 0, none⟩) n2 k2)) _
  generalize moveW w (.slice (some ⟨g1, 0, none⟩) n1 k1) (.slice (some ⟨g2, 0, none⟩) n2 k2) = W0 at *
  have a0 := hA.c0
  have a1 := hA.c1
  have d0 := hD.c0
  have d1 := hD.c1
  have df0 := hD.frozen 0
  have df1 := hD.frozen 1
  refine (in_no _ g1 n1 k1 t ht).mono ?_
  rintro e w' ⟨rfl, rfl⟩
  go_wp2
  have hD2 := hD.set2 (.slice (some ⟨g1, 0, none⟩) n1 k1) (.slice (some ⟨g2, 0, none⟩) n2 k2)
  have hB2 := hB.grown (set2_grown W0 (w.heap.size + 1) (.slice (some ⟨g1, 0, none⟩) n1 k1) (.slice (some ⟨g2, 0, none⟩) n2 k2)) hB.size (fun k e => by cases e; exact Nat.le_succ _)
  refine end_wt hD2 rfl rfl rfl rfl ?_
  exact ⟨rfl, hB2⟩

set_option maxRecDepth 100000 in
set_option maxHeartbeats 2000000 in
theorem rmove_out0 (w : World) (g1 n1 k1 g2 n2 k2 : Nat) (t j : Int) (ht : 0 ≤ t) (ht' : t < (n1 : Int)) (hj : j < 0 ∨ (n2 : Int) ≤ j) :
    Calls Tryd.prog 56 #[.agg #[.slice (some ⟨g1, 0, none⟩) n1 k1, .slice (some ⟨g2, 0, none⟩) n2 k2], .int .i64 0, .int .i64 t, .int .i64 j] w fun e w' => e = .returned (.tuple #[.agg #[.slice (some ⟨g1, 0, none⟩) n1 k1, .slice (some ⟨g2, 0, none⟩) n2 k2], .int .i64 4]) ∧ Below w.heap.size w w' := by
  have hB := moveW_below w (.slice (some ⟨g1, 0, none⟩) n1 k1) (.slice (some ⟨g2, 0, none⟩) n2 k2)
  have hA := moveW_a w (.slice (some ⟨g1, 0, none⟩) n1 k1) (.slice (some ⟨g2, 0, none⟩) n2 k2)
  have hD := moveW_b w (.slice (some ⟨g1, 0, none⟩) n1 k1) (.slice (some ⟨g2, 0, none⟩) n2 k2)
  go_enter Tryd.func56, Tryd.ntmps56
  go_wp2_with fail
  change Calls _ _ _ (moveW w (.slice (some ⟨g1, 0, none⟩) n1 k1) (.slice (some ⟨g2, 0, none⟩) n2 k2)) _
  generalize moveW w (.slice (some ⟨g1, 0, none⟩) n1 k1) (.slice (some ⟨g2, 0, none⟩) n2 k2) = W0 at *
  have a0 := hA.c0
  have a1 := hA.c1
  have d0 := hD.c0
  have d1 := hD.c1
  have df0 := hD.frozen 0
  have df1 := hD.frozen 1
  refine (in_yes _ g1 n1 k1 t ht ht').mono ?_
  rintro e w' ⟨rfl, rfl⟩
  go_wp2_with fail
  refine (in_no _ g2 n2 k2 j hj).mono ?_
  rintro e w' ⟨rfl, rfl⟩
  go_wp2
  have hD2 := hD.set2 (.slice (some ⟨g1, 0, none⟩) n1 k1) (.slice (some ⟨g2, 0, none⟩) n2 k2)
  have hB2 := hB.grown (set2_grown W0 (w.heap.size + 1) (.slice (some ⟨g1, 0, none⟩) n1 k1) (.slice (some ⟨g2, 0, none⟩) n2 k2)) hB.size (fun k e => by cases e; exact Nat.le_succ _)
  refine end_wt hD2 rfl rfl rfl rfl ?_
  exact ⟨rfl, hB2⟩

set_option maxRecDepth 100000 in
set_option maxHeartbeats 2000000 in
theorem rmove_out1 (w : World) (g1 n1 k1 g2 n2 k2 : Nat) (t j : Int) (ht : 0 ≤ t) (ht' : t < (n1 : Int)) (hj : j < 0 ∨ (n2 : Int) ≤ j) :
    Calls Tryd.prog 56 #[.agg #[.slice (some ⟨g1, 0, none⟩) n1 k1, .slice (some ⟨g2, 0, none⟩) n2 k2], .int .i64 1, .int .i64 t, .int .i64 j] w fun e w' => e = .returned (.tuple #[.agg #[.slice (some ⟨g1, 0, none⟩) n1 k1, .slice (some ⟨g2, 0, none⟩) n2 k2], .int .i64 4]) ∧ Below w.heap.size w w' := by
  have hB := moveW_below w (.slice (some ⟨g1, 0, none⟩) n1 k1) (.slice (some ⟨g2, 0, none⟩) n2 k2)
  have hA := moveW_a w (.slice (some ⟨g1, 0, none⟩) n1 k1) (.slice (some ⟨g2, 0, none⟩) n2 k2)
  have hD := moveW_b w (.slice (some ⟨g1, 0, none⟩) n1 k1) (.slice (some ⟨g2, 0, none⟩) n2 k2)
  go_enter Tryd.func56, Tryd.ntmps56
  go_wp2_with fail
  change Calls _ _ _ (moveW w (.slice (some ⟨g1, 0, none⟩) n1 k1) (.slice (some ⟨g2, 0, none⟩) n2 k2)) _
  generalize moveW w (.slice (some ⟨g1, 0, none⟩) n1 k1) (.slice (some ⟨g2, 0, none⟩) n2 k2) = W0 at *
  have a0 := hA.c0
  have a1 := hA.c1
  have d0 := hD.c0
  have d1 := hD.c1
  have df0 := hD.frozen 0
  have df1 := hD.frozen 1
  refine (in_yes _ g1 n1 k1 t ht ht').mono ?_
  rintro e w' ⟨rfl, rfl⟩
  go_wp2_with fail
  refine (in_no _ g2 n2 k2 j hj).mono ?_
  rintro e w' ⟨rfl, rfl⟩
  go_wp2
  have hD2 := hD.set2 (.slice (some ⟨g1, 0, none⟩) n1 k1) (.slice (some ⟨g2, 0, none⟩) n2 k2)
  have hB2 := hB.grown (set2_grown W0 (w.heap.size + 1) (.slice (some ⟨g1, 0, none⟩) n1 k1) (.slice (some ⟨g2, 0, none⟩) n2 k2)) hB.size (fun k e => by cases e; exact Nat.le_succ _)
  refine end_wt hD2 rfl rfl rfl rfl ?_
  exact ⟨rfl, hB2⟩

set_option maxRecDepth 100000 in
set_option maxHeartbeats 2000000 in
theorem rmove_out2 (w : World) (g1 n1 k1 g2 n2 k2 : Nat) (t j : Int) (ht : 0 ≤ t) (ht' : t < (n1 : Int)) (hj : j < 0 ∨ (n1 : Int) ≤ j) :
    Calls Tryd.prog 56 #[.agg #[.slice (some ⟨g1, 0, none⟩) n1 k1, .slice (some ⟨g2, 0, none⟩) n2 k2], .int .i64 2, .int .i64 t, .int .i64 j] w fun e w' => e = .returned (.tuple #[.agg #[.slice (some ⟨g1, 0, none⟩) n1 k1, .slice (some ⟨g2, 0, none⟩) n2 k2], .int .i64 4]) ∧ Below w.heap.size w w' := by
  have hB := moveW_below w (.slice (some ⟨g1, 0, none⟩) n1 k1) (.slice (some ⟨g2, 0, none⟩) n2 k2)
  have hA := moveW_a w (.slice (some ⟨g1, 0, none⟩) n1 k1) (.slice (some ⟨g2, 0, none⟩) n2 k2)
  have hD := moveW_b w (.slice (some ⟨g1, 0, none⟩) n1 k1) (.slice (some ⟨g2, 0, none⟩) n2 k2)
  go_enter Tryd.func56, Tryd.ntmps56
  go_wp2_with fail
  change Calls _ _ _ (moveW w (.slice (some ⟨g1, 0, none⟩) n1 k1) (.slice (some ⟨g2, 0, none⟩) n2 k2)) _
  generalize moveW w (.slice (some ⟨g1, 0, none⟩) n1 k1) (.slice (some ⟨g2, 0, none⟩) n2 k2) = W0 at *
  have a0 := hA.c0
  have a1 := hA.c1
  have d0 := hD.c0
  have d1 := hD.c1
  have df0 := hD.frozen 0
  have df1 := hD.frozen 1
  refine (in_yes _ g1 n1 k1 t ht ht').mono ?_
  rintro e w' ⟨rfl, rfl⟩
  go_wp2_with fail
  refine (in_no _ g1 n1 k1 j hj).mono ?_
  rintro e w' ⟨rfl, rfl⟩
  go_wp2
  have hD2 := hD.set2 (.slice (some ⟨g1, 0, none⟩) n1 k1) (.slice (some ⟨g2, 0, none⟩) n2 k2)
  have hB2 := hB.grown (set2_grown W0 (w.heap.size + 1) (.slice (some ⟨g1, 0, none⟩) n1 k1) (.slice (some ⟨g2, 0, none⟩) n2 k2)) hB.size (fun k e => by cases e; exact Nat.le_succ _)
  refine end_wt hD2 rfl rfl rfl rfl ?_
  exact ⟨rfl, hB2⟩

set_option maxRecDepth 100000 in
set_option maxHeartbeats 2000000 in
theorem rmove_out3 (w : World) (g1 n1 k1 g2 n2 k2 : Nat) (t j : Int) (ht : 0 ≤ t) (ht' : t < (n1 : Int)) (hj : j < 0 ∨ (n1 : Int) ≤ j) :
    Calls Tryd.prog 56 #[.agg #[.slice (some ⟨g1, 0, none⟩) n1 k1, .slice (some ⟨g2, 0, none⟩) n2 k2], .int .i64 3, .int .i64 t, .int .i64 j] w fun e w' => e = .returned (.tuple #[.agg #[.slice (some ⟨g1, 0, none⟩) n1 k1, .slice (some ⟨g2, 0, none⟩) n2 k2], .int .i64 4]) ∧ Below w.heap.size w w' := by
  have hB := moveW_below w (.slice (some ⟨g1, 0, none⟩) n1 k1) (.slice (some ⟨g2, 0, none⟩) n2 k2)
  have hA := moveW_a w (.slice (some ⟨g1, 0, none⟩) n1 k1) (.slice (some ⟨g2, 0, none⟩) n2 k2)
  have hD := moveW_b w (.slice (some ⟨g1, 0, none⟩) n1 k1) (.slice (some ⟨g2, 0, none⟩) n2 k2)
  go_enter Tryd.func56, Tryd.ntmps56
  go_wp2_with fail
  change Calls _ _ _ (moveW w (.slice (some ⟨g1, 0, none⟩) n1 k1) (.slice (some ⟨g2, 0, none⟩) n2 k2)) _
  generalize moveW w (.slice (some ⟨g1, 0, none⟩) n1 k1) (.slice (some ⟨g2, 0, none⟩) n2 k2) = W0 at *
  have a0 := hA.c0
  have a1 := hA.c1
  have d0 := hD.c0
  have d1 := hD.c1
  have df0 := hD.frozen 0
  have df1 := hD.frozen 1
  refine (in_yes _ g1 n1 k1 t ht ht').mono ?_
  rintro e w' ⟨rfl, rfl⟩
  go_wp2_with fail
  refine (in_no _ g1 n1 k1 j hj).mono ?_
  rintro e w' ⟨rfl, rfl⟩
  go_wp2
  have hD2 := hD.set2 (.slice (some ⟨g1, 0, none⟩) n1 k1) (.slice (some ⟨g2, 0, none⟩) n2 k2)
  have hB2 := hB.grown (set2_grown W0 (w.heap.size + 1) (.slice (some ⟨g1, 0, none⟩) n1 k1) (.slice (some ⟨g2, 0, none⟩) n2 k2)) hB.size (fun k e => by cases e; exact Nat.le_succ _)
  refine end_wt hD2 rfl rfl rfl rfl ?_
  exact ⟨rfl, hB2⟩

set_option maxRecDepth 100000 in
set_option maxHeartbeats 4000000 in
theorem rmove_give {w : World} {g1 k1 g2 k2 : Nat} {th pl : List Ck} (h1 : RL w g1 k1 th) (h2 : RL w g2 k2 pl) {i j : Nat} (hi : i < th.length) (hj : j < pl.length) (_hn : th.length ≤ 8) (hm : pl.length ≤ 65536) :
    Calls Tryd.prog 56 #[.agg #[.slice (some ⟨g1, 0, none⟩) th.length k1, .slice (some ⟨g2, 0, none⟩) pl.length k2], .int .i64 0, .int .i64 (i : Int), .int .i64 (j : Int)] w fun e w' => ∃ g k, e = .returned (.tuple #[.agg #[.slice (some ⟨g1, 0, none⟩) th.length k1, .slice (some ⟨g, 0, none⟩) pl.length k], .int .i64 0]) ∧
      RL w' g k (pl.set j (jn (at_ pl j) (at_ th i))) ∧ Below w.heap.size w w' ∧ w.heap.size ≤ g := by
  have hmx : Tryd.prog.follows .mixedOrders = true := by kernel_rfl
  have hB := moveW_below w (.slice (some ⟨g1, 0, none⟩) th.length k1) (.slice (some ⟨g2, 0, none⟩) pl.length k2)
  have hA := moveW_a w (.slice (some ⟨g1, 0, none⟩) th.length k1) (.slice (some ⟨g2, 0, none⟩) pl.length k2)
  have hD := moveW_b w (.slice (some ⟨g1, 0, none⟩) th.length k1) (.slice (some ⟨g2, 0, none⟩) pl.length k2)
  have hR1 := h1.belowS hB
  have hR2 := h2.belowS hB
  go_enter Tryd.func56, Tryd.ntmps56
  go_wp2_with fail
  change Calls _ _ _ (moveW w (.slice (some ⟨g1, 0, none⟩) th.length k1) (.slice (some ⟨g2, 0, none⟩) pl.length k2)) _
  generalize moveW w (.slice (some ⟨g1, 0, none⟩) th.length k1) (.slice (some ⟨g2, 0, none⟩) pl.length k2) = W0 at *
  have a0 := hA.c0
  have a1 := hA.c1
  refine (in_yes _ g1 th.length k1 (i : Int) (by omega) (by omega)).mono ?_
  rintro e w' ⟨rfl, rfl⟩
  go_wp2_with fail
  refine (in_yes _ g2 pl.length k2 (j : Int) (by omega) (by omega)).mono ?_
  rintro e w' ⟨rfl, rfl⟩
  clear a0 a1
  go_wp2_with fail
  refine wp_region_x [16] (fun W1 => Bx W1 w.heap.size (.slice (some ⟨g1, 0, none⟩) th.length k1) (.slice (some ⟨g2, 0, none⟩) pl.length k2) ∧ PRow W1 g1 23 th k1 ∧ PRow W1 g2 23 pl k2) hmx ?_
  have HS : Hid (Bx W0.drew w.heap.size (.slice (some ⟨g1, 0, none⟩) th.length k1) (.slice (some ⟨g2, 0, none⟩) pl.length k2) ∧ PRow W0.drew g1 23 th k1 ∧ PRow W0.drew g2 23 pl k2) := ⟨hA.drew, hR1.drew.2, hR2.drew.2⟩
  refine wpX_take 0 (v := ?v0) rfl (by kernel_rfl) (by kernel_rfl) (by kernel_rfl) (by kernel_rfl) (fun _ _ _ h => h) HS.out (Or.inl ⟨by rfl, ?h0⟩) ?_
  case h0 =>
    intro W1 hS1
    obtain ⟨sA, s1, s2⟩ := hS1
    clear sA s1 s2
    go_simp
    with_reducible rfl
  refine wpX_take 1 (v := ?v1) rfl (by kernel_rfl) (by kernel_rfl) (by kernel_rfl) (by kernel_rfl) (fun _ _ _ h => h) HS.out (Or.inl ⟨by rfl, ?h1⟩) ?_
  case h1 =>
    intro W1 hS1
    obtain ⟨sA, s1, s2⟩ := hS1
    have b0 := sA.c0
    have b1 := sA.c1
    clear sA s1 s2
    go_simp
    with_reducible rfl
  refine wpX_take 2 (v := ?v2) rfl (by kernel_rfl) (by kernel_rfl) (by kernel_rfl) (by kernel_rfl) (fun _ _ _ h => h) HS.out (Or.inl ⟨by rfl, ?h2⟩) ?_
  case h2 =>
    intro W1 hS1
    obtain ⟨sA, s1, s2⟩ := hS1
    clear sA s1 s2
    go_simp
    with_reducible rfl
  refine wpX_take 3 (v := ?v3) rfl (by kernel_rfl) (by kernel_rfl) (by kernel_rfl) (by kernel_rfl) (fun _ _ _ h => h) HS.out (Or.inl ⟨by rfl, ?h3⟩) ?_
  case h3 =>
    intro W1 hS1
    obtain ⟨sA, s1, s2⟩ := hS1
    clear sA s1 s2
    go_simp
    with_reducible rfl
  refine wpX_take 4 (v := ?v4) rfl (by kernel_rfl) (by kernel_rfl) (by kernel_rfl) (by kernel_rfl) (fun _ _ _ h => h) HS.out (Or.inl ⟨by rfl, ?h4⟩) ?_
  case h4 =>
    intro W1 hS1
    obtain ⟨sA, s1, s2⟩ := hS1
    have b0 := sA.c0
    have b1 := sA.c1
    clear sA s1 s2
    go_simp
    with_reducible rfl
  refine wpX_take 5 (v := ?v5) rfl (by kernel_rfl) (by kernel_rfl) (by kernel_rfl) (by kernel_rfl) (fun _ _ _ h => h) HS.out (Or.inl ⟨by rfl, ?h5⟩) ?_
  case h5 =>
    intro W1 hS1
    obtain ⟨sA, s1, s2⟩ := hS1
    clear sA s1 s2
    go_simp
    with_reducible rfl
  refine wpX_take 6 (v := ?v6) rfl (by kernel_rfl) (by kernel_rfl) (by kernel_rfl) (by kernel_rfl) (fun _ _ _ h => h) HS.out (Or.inl ⟨by rfl, ?h6⟩) ?_
  case h6 =>
    intro W1 hS1
    obtain ⟨sA, s1, s2⟩ := hS1
    clear sA s1 s2
    go_simp
    with_reducible rfl
  refine wpX_take 7 (v := ?v7) rfl (by kernel_rfl) (by kernel_rfl) (by kernel_rfl) (by kernel_rfl) (fun _ _ _ h => h) HS.out (Or.inl ⟨by rfl, ?h7⟩) ?_
  case h7 =>
    intro W1 hS1
    obtain ⟨sA, s1, s2⟩ := hS1
    have x0 := s2.cell (j := 0) hj (by decide)
    have x1 := s2.cell (j := 1) hj (by decide)
    have x2 := s2.cell (j := 2) hj (by decide)
    have x3 := s2.cell (j := 3) hj (by decide)
    have x4 := s2.cell (j := 4) hj (by decide)
    have x5 := s2.cell (j := 5) hj (by decide)
    have x6 := s2.cell (j := 6) hj (by decide)
    have x7 := s2.cell (j := 7) hj (by decide)
    rw [Nat.add_zero] at x0
    clear sA s1 s2
    go_simp
    with_reducible rfl
  refine wpX_take 8 (v := ?v8) rfl (by kernel_rfl) (by kernel_rfl) (by kernel_rfl) (by kernel_rfl) (fun _ _ _ h => h) HS.out (Or.inl ⟨by rfl, ?h8⟩) ?_
  case h8 =>
    intro W1 hS1
    obtain ⟨sA, s1, s2⟩ := hS1
    clear sA s1 s2
    go_simp
    with_reducible rfl
  refine wpX_take 9 (v := ?v9) rfl (by kernel_rfl) (by kernel_rfl) (by kernel_rfl) (by kernel_rfl) (fun _ _ _ h => h) HS.out (Or.inl ⟨by rfl, ?h9⟩) ?_
  case h9 =>
    intro W1 hS1
    obtain ⟨sA, s1, s2⟩ := hS1
    have b0 := sA.c0
    have b1 := sA.c1
    clear sA s1 s2
    go_simp
    with_reducible rfl
  refine wpX_take 10 (v := ?v10) rfl (by kernel_rfl) (by kernel_rfl) (by kernel_rfl) (by kernel_rfl) (fun _ _ _ h => h) HS.out (Or.inl ⟨by rfl, ?h10⟩) ?_
  case h10 =>
    intro W1 hS1
    obtain ⟨sA, s1, s2⟩ := hS1
    clear sA s1 s2
    go_simp
    with_reducible rfl
  refine wpX_take 11 (v := ?v11) rfl (by kernel_rfl) (by kernel_rfl) (by kernel_rfl) (by kernel_rfl) (fun _ _ _ h => h) HS.out (Or.inl ⟨by rfl, ?h11⟩) ?_
  case h11 =>
    intro W1 hS1
    obtain ⟨sA, s1, s2⟩ := hS1
    clear sA s1 s2
    go_simp
    with_reducible rfl
  refine wpX_take 12 (v := ?v12) rfl (by kernel_rfl) (by kernel_rfl) (by kernel_rfl) (by kernel_rfl) (fun _ _ _ h => h) HS.out (Or.inl ⟨by rfl, ?h12⟩) ?_
  case h12 =>
    intro W1 hS1
    obtain ⟨sA, s1, s2⟩ := hS1
    have x0 := s1.cell (j := 0) hi (by decide)
    have x1 := s1.cell (j := 1) hi (by decide)
    have x2 := s1.cell (j := 2) hi (by decide)
    have x3 := s1.cell (j := 3) hi (by decide)
    have x4 := s1.cell (j := 4) hi (by decide)
    have x5 := s1.cell (j := 5) hi (by decide)
    have x6 := s1.cell (j := 6) hi (by decide)
    have x7 := s1.cell (j := 7) hi (by decide)
    rw [Nat.add_zero] at x0
    clear sA s1 s2
    go_simp
    with_reducible rfl
  refine wpX_one 13 (by kernel_rfl) rfl (fun K hK => ?_)
  go_simp
  refine (rjoin_any (at_ pl j) (at_ th i) _).mono ?_
  rintro e w1 ⟨rfl, hb⟩
  have hb' : Below W0.heap.size W0 w1 := (Below.refl W0.heap.size W0).drew.trans hb
  have hA1 := hA.belowS hb'
  have hD1 := hD.belowS hb'
  have hR11 := hR1.belowS hb'
  have hR21 := hR2.belowS hb'
  have hB1 : Below w.heap.size w w1 := hB.trans (hb'.mono hB.size)
  refine hK _ _ (fun _ => ⟨hA1, hR11.2, hR21.2⟩) ?_
  clear hK K hb hb' HS
  refine wpX_one 14 (by kernel_rfl) rfl (fun K hK => ?_)
  go_simp
  refine (set_in hR21 hj (jn (at_ pl j) (at_ th i)) (by omega)).mono ?_
  rintro e w3 ⟨g, k, rfl, hR3, hb3, hge⟩
  have hA3 := hA1.belowS hb3
  have hD3 := hD1.belowS hb3
  have hR13 := hR11.belowS hb3
  have hR23 := hR21.belowS hb3
  have hB3 : Below w.heap.size w w3 := hB1.trans (hb3.mono hB1.size)
  have HS : Hid (Bx w3 w.heap.size (.slice (some ⟨g1, 0, none⟩) th.length k1) (.slice (some ⟨g2, 0, none⟩) pl.length k2) ∧ PRow w3 g1 23 th k1 ∧ PRow w3 g2 23 pl k2) := ⟨hA3, hR13.2, hR23.2⟩
  have hlt1 := hA1.lt
  refine hK _ _ (fun _ => HS.out) ?_
  clear hK K hb3
  refine wpX_take 15 (v := ?v15) rfl (by kernel_rfl) (by kernel_rfl) (by kernel_rfl) (by kernel_rfl) (fun _ _ _ h => h) HS.out (Or.inl ⟨by rfl, ?h15⟩) ?_
  case h15 =>
    intro W1 hS1
    obtain ⟨sA, s1, s2⟩ := hS1
    clear sA s1 s2
    go_simp
    with_reducible rfl
  refine wpX_one 16 (by kernel_rfl) rfl (fun K hK => ?_)
  have b0 := hA3.c0
  have b1 := hA3.c1
  have f0 := hA3.frozen 0
  have f1 := hA3.frozen 1
  go_simp
  refine hK _ _ (fun h => by cases h) ?_
  clear hK K b0 b1 f0 f1 HS
  refine wpX_done (by kernel_rfl) ?_ _
  have hd1 := hD1.lt
  have hA4 := hA3.set1 (.slice (some ⟨g, 0, none⟩) pl.length k)
  have hg4 := grown_set w3 w.heap.size 1 (.slice (some ⟨g, 0, none⟩) pl.length k)
  have hD4 := hD3.kept hg4 (nesome (by omega))
  have hR4 := hR3.kept hg4 (nesome (by omega))
  have hB4 : Below w.heap.size w _ := hB3.grown hg4 hB3.size (fun k e => by cases e; exact Nat.le_refl _)
  clear hg4 hA3 hD3 hR3 hB3 hR13 hR23 hA hD hB hR1 hR2 h1 h2 hA1 hR11 hR21
  generalize w3.setCell ⟨w.heap.size, 1, none⟩ (.slice (some ⟨g, 0, none⟩) pl.length k) = W4 at *
  have a0 := hA4.c0
  have a1 := hA4.c1
  have d0 := hD4.c0
  have d1 := hD4.c1
  have df0 := hD4.frozen 0
  have df1 := hD4.frozen 1
  go_wp2
  have hD5 := hD4.set2 (.slice (some ⟨g1, 0, none⟩) th.length k1) (.slice (some ⟨g, 0, none⟩) pl.length k)
  have hB5 := hB4.grown (set2_grown W4 (w.heap.size + 1) (.slice (some ⟨g1, 0, none⟩) th.length k1) (.slice (some ⟨g, 0, none⟩) pl.length k)) hB4.size (fun k e => by cases e; exact Nat.le_succ _)
  have hR5 := hR4.kept (set2_grown W4 (w.heap.size + 1) (.slice (some ⟨g1, 0, none⟩) th.length k1) (.slice (some ⟨g, 0, none⟩) pl.length k)) (nesome (by omega))
  refine end_wt hD5 rfl rfl rfl rfl ?_
  exact ⟨g, k, rfl, hR5, hB5, by omega⟩

set_option maxRecDepth 100000 in
set_option maxHeartbeats 4000000 in
theorem rmove_take {w : World} {g1 k1 g2 k2 : Nat} {th pl : List Ck} (h1 : RL w g1 k1 th) (h2 : RL w g2 k2 pl) {i j : Nat} (hi : i < th.length) (hj : j < pl.length) (hn : th.length ≤ 8) (_hm : pl.length ≤ 65536) :
    Calls Tryd.prog 56 #[.agg #[.slice (some ⟨g1, 0, none⟩) th.length k1, .slice (some ⟨g2, 0, none⟩) pl.length k2], .int .i64 1, .int .i64 (i : Int), .int .i64 (j : Int)] w fun e w' => ∃ g k, e = .returned (.tuple #[.agg #[.slice (some ⟨g, 0, none⟩) th.length k, .slice (some ⟨g2, 0, none⟩) pl.length k2], .int .i64 0]) ∧
      RL w' g k (th.set i (jn (at_ th i) (at_ pl j))) ∧ Below w.heap.size w w' ∧ w.heap.size ≤ g := by
  have hmx : Tryd.prog.follows .mixedOrders = true := by kernel_rfl
  have hB := moveW_below w (.slice (some ⟨g1, 0, none⟩) th.length k1) (.slice (some ⟨g2, 0, none⟩) pl.length k2)
  have hA := moveW_a w (.slice (some ⟨g1, 0, none⟩) th.length k1) (.slice (some ⟨g2, 0, none⟩) pl.length k2)
  have hD := moveW_b w (.slice (some ⟨g1, 0, none⟩) th.length k1) (.slice (some ⟨g2, 0, none⟩) pl.length k2)
  have hR1 := h1.belowS hB
  have hR2 := h2.belowS hB
  go_enter Tryd.func56, Tryd.ntmps56
  go_wp2_with fail
  change Calls _ _ _ (moveW w (.slice (some ⟨g1, 0, none⟩) th.length k1) (.slice (some ⟨g2, 0, none⟩) pl.length k2)) _
  generalize moveW w (.slice (some ⟨g1, 0, none⟩) th.length k1) (.slice (some ⟨g2, 0, none⟩) pl.length k2) = W0 at *
  have a0 := hA.c0
  have a1 := hA.c1
  refine (in_yes _ g1 th.length k1 (i : Int) (by omega) (by omega)).mono ?_
  rintro e w' ⟨rfl, rfl⟩
  go_wp2_with fail
  refine (in_yes _ g2 pl.length k2 (j : Int) (by omega) (by omega)).mono ?_
  rintro e w' ⟨rfl, rfl⟩
  clear a0 a1
  go_wp2_with fail
  refine wp_region_x [16] (fun W1 => Bx W1 w.heap.size (.slice (some ⟨g1, 0, none⟩) th.length k1) (.slice (some ⟨g2, 0, none⟩) pl.length k2) ∧ PRow W1 g1 23 th k1 ∧ PRow W1 g2 23 pl k2) hmx ?_
  have HS : Hid (Bx W0.drew w.heap.size (.slice (some ⟨g1, 0, none⟩) th.length k1) (.slice (some ⟨g2, 0, none⟩) pl.length k2) ∧ PRow W0.drew g1 23 th k1 ∧ PRow W0.drew g2 23 pl k2) := ⟨hA.drew, hR1.drew.2, hR2.drew.2⟩
  refine wpX_take 0 (v := ?v0) rfl (by kernel_rfl) (by kernel_rfl) (by kernel_rfl) (by kernel_rfl) (fun _ _ _ h => h) HS.out (Or.inl ⟨by rfl, ?h0⟩) ?_
  case h0 =>
    intro W1 hS1
    obtain ⟨sA, s1, s2⟩ := hS1
    clear sA s1 s2
    go_simp
    with_reducible rfl
  refine wpX_take 1 (v := ?v1) rfl (by kernel_rfl) (by kernel_rfl) (by kernel_rfl) (by kernel_rfl) (fun _ _ _ h => h) HS.out (Or.inl ⟨by rfl, ?h1⟩) ?_
  case h1 =>
    intro W1 hS1
    obtain ⟨sA, s1, s2⟩ := hS1
    have b0 := sA.c0
    have b1 := sA.c1
    clear sA s1 s2
    go_simp
    with_reducible rfl
  refine wpX_take 2 (v := ?v2) rfl (by kernel_rfl) (by kernel_rfl) (by kernel_rfl) (by kernel_rfl) (fun _ _ _ h => h) HS.out (Or.inl ⟨by rfl, ?h2⟩) ?_
  case h2 =>
    intro W1 hS1
    obtain ⟨sA, s1, s2⟩ := hS1
    clear sA s1 s2
    go_simp
    with_reducible rfl
  refine wpX_take 3 (v := ?v3) rfl (by kernel_rfl) (by kernel_rfl) (by kernel_rfl) (by kernel_rfl) (fun _ _ _ h => h) HS.out (Or.inl ⟨by rfl, ?h3⟩) ?_
  case h3 =>
    intro W1 hS1
    obtain ⟨sA, s1, s2⟩ := hS1
    clear sA s1 s2
    go_simp
    with_reducible rfl
  refine wpX_take 4 (v := ?v4) rfl (by kernel_rfl) (by kernel_rfl) (by kernel_rfl) (by kernel_rfl) (fun _ _ _ h => h) HS.out (Or.inl ⟨by rfl, ?h4⟩) ?_
  case h4 =>
    intro W1 hS1
    obtain ⟨sA, s1, s2⟩ := hS1
    have b0 := sA.c0
    have b1 := sA.c1
    clear sA s1 s2
    go_simp
    with_reducible rfl
  refine wpX_take 5 (v := ?v5) rfl (by kernel_rfl) (by kernel_rfl) (by kernel_rfl) (by kernel_rfl) (fun _ _ _ h => h) HS.out (Or.inl ⟨by rfl, ?h5⟩) ?_
  case h5 =>
    intro W1 hS1
    obtain ⟨sA, s1, s2⟩ := hS1
    clear sA s1 s2
    go_simp
    with_reducible rfl
  refine wpX_take 6 (v := ?v6) rfl (by kernel_rfl) (by kernel_rfl) (by kernel_rfl) (by kernel_rfl) (fun _ _ _ h => h) HS.out (Or.inl ⟨by rfl, ?h6⟩) ?_
  case h6 =>
    intro W1 hS1
    obtain ⟨sA, s1, s2⟩ := hS1
    clear sA s1 s2
    go_simp
    with_reducible rfl
  refine wpX_take 7 (v := ?v7) rfl (by kernel_rfl) (by kernel_rfl) (by kernel_rfl) (by kernel_rfl) (fun _ _ _ h => h) HS.out (Or.inl ⟨by rfl, ?h7⟩) ?_
  case h7 =>
    intro W1 hS1
    obtain ⟨sA, s1, s2⟩ := hS1
    have x0 := s1.cell (j := 0) hi (by decide)
    have x1 := s1.cell (j := 1) hi (by decide)
    have x2 := s1.cell (j := 2) hi (by decide)
    have x3 := s1.cell (j := 3) hi (by decide)
    have x4 := s1.cell (j := 4) hi (by decide)
    have x5 := s1.cell (j := 5) hi (by decide)
    have x6 := s1.cell (j := 6) hi (by decide)
    have x7 := s1.cell (j := 7) hi (by decide)
    rw [Nat.add_zero] at x0
    clear sA s1 s2
    go_simp
    with_reducible rfl
  refine wpX_take 8 (v := ?v8) rfl (by kernel_rfl) (by kernel_rfl) (by kernel_rfl) (by kernel_rfl) (fun _ _ _ h => h) HS.out (Or.inl ⟨by rfl, ?h8⟩) ?_
  case h8 =>
    intro W1 hS1
    obtain ⟨sA, s1, s2⟩ := hS1
    clear sA s1 s2
    go_simp
    with_reducible rfl
  refine wpX_take 9 (v := ?v9) rfl (by kernel_rfl) (by kernel_rfl) (by kernel_rfl) (by kernel_rfl) (fun _ _ _ h => h) HS.out (Or.inl ⟨by rfl, ?h9⟩) ?_
  case h9 =>
    intro W1 hS1
    obtain ⟨sA, s1, s2⟩ := hS1
    have b0 := sA.c0
    have b1 := sA.c1
    clear sA s1 s2
    go_simp
    with_reducible rfl
  refine wpX_take 10 (v := ?v10) rfl (by kernel_rfl) (by kernel_rfl) (by kernel_rfl) (by kernel_rfl) (fun _ _ _ h => h) HS.out (Or.inl ⟨by rfl, ?h10⟩) ?_
  case h10 =>
    intro W1 hS1
    obtain ⟨sA, s1, s2⟩ := hS1
    clear sA s1 s2
    go_simp
    with_reducible rfl
  refine wpX_take 11 (v := ?v11) rfl (by kernel_rfl) (by kernel_rfl) (by kernel_rfl) (by kernel_rfl) (fun _ _ _ h => h) HS.out (Or.inl ⟨by rfl, ?h11⟩) ?_
  case h11 =>
    intro W1 hS1
    obtain ⟨sA, s1, s2⟩ := hS1
    clear sA s1 s2
    go_simp
    with_reducible rfl
  refine wpX_take 12 (v := ?v12) rfl (by kernel_rfl) (by kernel_rfl) (by kernel_rfl) (by kernel_rfl) (fun _ _ _ h => h) HS.out (Or.inl ⟨by rfl, ?h12⟩) ?_
  case h12 =>
    intro W1 hS1
    obtain ⟨sA, s1, s2⟩ := hS1
    have x0 := s2.cell (j := 0) hj (by decide)
    have x1 := s2.cell (j := 1) hj (by decide)
    have x2 := s2.cell (j := 2) hj (by decide)
    have x3 := s2.cell (j := 3) hj (by decide)
    have x4 := s2.cell (j := 4) hj (by decide)
    have x5 := s2.cell (j := 5) hj (by decide)
    have x6 := s2.cell (j := 6) hj (by decide)
    have x7 := s2.cell (j := 7) hj (by decide)
    rw [Nat.add_zero] at x0
    clear sA s1 s2
    go_simp
    with_reducible rfl
  refine wpX_one 13 (by kernel_rfl) rfl (fun K hK => ?_)
  go_simp
  refine (rjoin_any (at_ th i) (at_ pl j) _).mono ?_
  rintro e w1 ⟨rfl, hb⟩
  have hb' : Below W0.heap.size W0 w1 := (Below.refl W0.heap.size W0).drew.trans hb
  have hA1 := hA.belowS hb'
  have hD1 := hD.belowS hb'
  have hR11 := hR1.belowS hb'
  have hR21 := hR2.belowS hb'
  have hB1 : Below w.heap.size w w1 := hB.trans (hb'.mono hB.size)
  refine hK _ _ (fun _ => ⟨hA1, hR11.2, hR21.2⟩) ?_
  clear hK K hb hb' HS
  refine wpX_one 14 (by kernel_rfl) rfl (fun K hK => ?_)
  go_simp
  refine (set_in hR11 hi (jn (at_ th i) (at_ pl j)) (by omega)).mono ?_
  rintro e w3 ⟨g, k, rfl, hR3, hb3, hge⟩
  have hA3 := hA1.belowS hb3
  have hD3 := hD1.belowS hb3
  have hR13 := hR11.belowS hb3
  have hR23 := hR21.belowS hb3
  have hB3 : Below w.heap.size w w3 := hB1.trans (hb3.mono hB1.size)
  have HS : Hid (Bx w3 w.heap.size (.slice (some ⟨g1, 0, none⟩) th.length k1) (.slice (some ⟨g2, 0, none⟩) pl.length k2) ∧ PRow w3 g1 23 th k1 ∧ PRow w3 g2 23 pl k2) := ⟨hA3, hR13.2, hR23.2⟩
  have hlt1 := hA1.lt
  refine hK _ _ (fun _ => HS.out) ?_
  clear hK K hb3
  refine wpX_take 15 (v := ?v15) rfl (by kernel_rfl) (by kernel_rfl) (by kernel_rfl) (by kernel_rfl) (fun _ _ _ h => h) HS.out (Or.inl ⟨by rfl, ?h15⟩) ?_
  case h15 =>
    intro W1 hS1
    obtain ⟨sA, s1, s2⟩ := hS1
    clear sA s1 s2
    go_simp
    with_reducible rfl
  refine wpX_one 16 (by kernel_rfl) rfl (fun K hK => ?_)
  have b0 := hA3.c0
  have b1 := hA3.c1
  have f0 := hA3.frozen 0
  have f1 := hA3.frozen 1
  go_simp
  refine hK _ _ (fun h => by cases h) ?_
  clear hK K b0 b1 f0 f1 HS
  refine wpX_done (by kernel_rfl) ?_ _
  have hd1 := hD1.lt
  have hA4 := hA3.set0 (.slice (some ⟨g, 0, none⟩) th.length k)
  have hg4 := grown_set w3 w.heap.size 0 (.slice (some ⟨g, 0, none⟩) th.length k)
  have hD4 := hD3.kept hg4 (nesome (by omega))
  have hR4 := hR3.kept hg4 (nesome (by omega))
  have hB4 : Below w.heap.size w _ := hB3.grown hg4 hB3.size (fun k e => by cases e; exact Nat.le_refl _)
  clear hg4 hA3 hD3 hR3 hB3 hR13 hR23 hA hD hB hR1 hR2 h1 h2 hA1 hR11 hR21
  generalize w3.setCell ⟨w.heap.size, 0, none⟩ (.slice (some ⟨g, 0, none⟩) th.length k) = W4 at *
  have a0 := hA4.c0
  have a1 := hA4.c1
  have d0 := hD4.c0
  have d1 := hD4.c1
  have df0 := hD4.frozen 0
  have df1 := hD4.frozen 1
  go_wp2
  have hD5 := hD4.set2 (.slice (some ⟨g, 0, none⟩) th.length k) (.slice (some ⟨g2, 0, none⟩) pl.length k2)
  have hB5 := hB4.grown (set2_grown W4 (w.heap.size + 1) (.slice (some ⟨g, 0, none⟩) th.length k) (.slice (some ⟨g2, 0, none⟩) pl.length k2)) hB4.size (fun k e => by cases e; exact Nat.le_succ _)
  have hR5 := hR4.kept (set2_grown W4 (w.heap.size + 1) (.slice (some ⟨g, 0, none⟩) th.length k) (.slice (some ⟨g2, 0, none⟩) pl.length k2)) (nesome (by omega))
  refine end_wt hD5 rfl rfl rfl rfl ?_
  exact ⟨g, k, rfl, hR5, hB5, by omega⟩

set_option maxRecDepth 100000 in
set_option maxHeartbeats 4000000 in
theorem rmove_spawn {w : World} {g1 k1 g2 k2 : Nat} {th pl : List Ck} (h1 : RL w g1 k1 th) (h2 : RL w g2 k2 pl) {i j : Nat} (hi : i < th.length) (hj : j < th.length) (hn : th.length ≤ 8) (_hm : pl.length ≤ 65536) :
    Calls Tryd.prog 56 #[.agg #[.slice (some ⟨g1, 0, none⟩) th.length k1, .slice (some ⟨g2, 0, none⟩) pl.length k2], .int .i64 2, .int .i64 (i : Int), .int .i64 (j : Int)] w fun e w' => ∃ g k, e = .returned (.tuple #[.agg #[.slice (some ⟨g, 0, none⟩) th.length k, .slice (some ⟨g2, 0, none⟩) pl.length k2], .int .i64 0]) ∧
      RL w' g k (th.set j (jn (at_ th j) (at_ th i))) ∧ Below w.heap.size w w' ∧ w.heap.size ≤ g := by
  have hmx : Tryd.prog.follows .mixedOrders = true := by kernel_rfl
  have hB := moveW_below w (.slice (some ⟨g1, 0, none⟩) th.length k1) (.slice (some ⟨g2, 0, none⟩) pl.length k2)
  have hA := moveW_a w (.slice (some ⟨g1, 0, none⟩) th.length k1) (.slice (some ⟨g2, 0, none⟩) pl.length k2)
  have hD := moveW_b w (.slice (some ⟨g1, 0, none⟩) th.length k1) (.slice (some ⟨g2, 0, none⟩) pl.length k2)
  have hR1 := h1.belowS hB
  have hR2 := h2.belowS hB
  go_enter Tryd.func56, Tryd.ntmps56
  go_wp2_with fail
  change Calls _ _ _ (moveW w (.slice (some ⟨g1, 0, none⟩) th.length k1) (.slice (some ⟨g2, 0, none⟩) pl.length k2)) _
  generalize moveW w (.slice (some ⟨g1, 0, none⟩) th.length k1) (.slice (some ⟨g2, 0, none⟩) pl.length k2) = W0 at *
  have a0 := hA.c0
  have a1 := hA.c1
  refine (in_yes _ g1 th.length k1 (i : Int) (by omega) (by omega)).mono ?_
  rintro e w' ⟨rfl, rfl⟩
  go_wp2_with fail
  refine (in_yes _ g1 th.length k1 (j : Int) (by omega) (by omega)).mono ?_
  rintro e w' ⟨rfl, rfl⟩
  clear a0 a1
  go_wp2_with fail
  refine wp_region_x [16] (fun W1 => Bx W1 w.heap.size (.slice (some ⟨g1, 0, none⟩) th.length k1) (.slice (some ⟨g2, 0, none⟩) pl.length k2) ∧ PRow W1 g1 23 th k1 ∧ PRow W1 g2 23 pl k2) hmx ?_
  have HS : Hid (Bx W0.drew w.heap.size (.slice (some ⟨g1, 0, none⟩) th.length k1) (.slice (some ⟨g2, 0, none⟩) pl.length k2) ∧ PRow W0.drew g1 23 th k1 ∧ PRow W0.drew g2 23 pl k2) := ⟨hA.drew, hR1.drew.2, hR2.drew.2⟩
  refine wpX_take 0 (v := ?v0) rfl (by kernel_rfl) (by kernel_rfl) (by kernel_rfl) (by kernel_rfl) (fun _ _ _ h => h) HS.out (Or.inl ⟨by rfl, ?h0⟩) ?_
  case h0 =>
    intro W1 hS1
    obtain ⟨sA, s1, s2⟩ := hS1
    clear sA s1 s2
    go_simp
    with_reducible rfl
  refine wpX_take 1 (v := ?v1) rfl (by kernel_rfl) (by kernel_rfl) (by kernel_rfl) (by kernel_rfl) (fun _ _ _ h => h) HS.out (Or.inl ⟨by rfl, ?h1⟩) ?_
  case h1 =>
    intro W1 hS1
    obtain ⟨sA, s1, s2⟩ := hS1
    have b0 := sA.c0
    have b1 := sA.c1
    clear sA s1 s2
    go_simp
    with_reducible rfl
  refine wpX_take 2 (v := ?v2) rfl (by kernel_rfl) (by kernel_rfl) (by kernel_rfl) (by kernel_rfl) (fun _ _ _ h => h) HS.out (Or.inl ⟨by rfl, ?h2⟩) ?_
  case h2 =>
    intro W1 hS1
    obtain ⟨sA, s1, s2⟩ := hS1
    clear sA s1 s2
    go_simp
    with_reducible rfl
  refine wpX_take 3 (v := ?v3) rfl (by kernel_rfl) (by kernel_rfl) (by kernel_rfl) (by kernel_rfl) (fun _ _ _ h => h) HS.out (Or.inl ⟨by rfl, ?h3⟩) ?_
  case h3 =>
    intro W1 hS1
    obtain ⟨sA, s1, s2⟩ := hS1
    clear sA s1 s2
    go_simp
    with_reducible rfl
  refine wpX_take 4 (v := ?v4) rfl (by kernel_rfl) (by kernel_rfl) (by kernel_rfl) (by kernel_rfl) (fun _ _ _ h => h) HS.out (Or.inl ⟨by rfl, ?h4⟩) ?_
  case h4 =>
    intro W1 hS1
    obtain ⟨sA, s1, s2⟩ := hS1
    have b0 := sA.c0
    have b1 := sA.c1
    clear sA s1 s2
    go_simp
    with_reducible rfl
  refine wpX_take 5 (v := ?v5) rfl (by kernel_rfl) (by kernel_rfl) (by kernel_rfl) (by kernel_rfl) (fun _ _ _ h => h) HS.out (Or.inl ⟨by rfl, ?h5⟩) ?_
  case h5 =>
    intro W1 hS1
    obtain ⟨sA, s1, s2⟩ := hS1
    clear sA s1 s2
    go_simp
    with_reducible rfl
  refine wpX_take 6 (v := ?v6) rfl (by kernel_rfl) (by kernel_rfl) (by kernel_rfl) (by kernel_rfl) (fun _ _ _ h => h) HS.out (Or.inl ⟨by rfl, ?h6⟩) ?_
  case h6 =>
    intro W1 hS1
    obtain ⟨sA, s1, s2⟩ := hS1
    clear sA s1 s2
    go_simp
    with_reducible rfl
  refine wpX_take 7 (v := ?v7) rfl (by kernel_rfl) (by kernel_rfl) (by kernel_rfl) (by kernel_rfl) (fun _ _ _ h => h) HS.out (Or.inl ⟨by rfl, ?h7⟩) ?_
  case h7 =>
    intro W1 hS1
    obtain ⟨sA, s1, s2⟩ := hS1
    have x0 := s1.cell (j := 0) hj (by decide)
    have x1 := s1.cell (j := 1) hj (by decide)
    have x2 := s1.cell (j := 2) hj (by decide)
    have x3 := s1.cell (j := 3) hj (by decide)
    have x4 := s1.cell (j := 4) hj (by decide)
    have x5 := s1.cell (j := 5) hj (by decide)
    have x6 := s1.cell (j := 6) hj (by decide)
    have x7 := s1.cell (j := 7) hj (by decide)
    rw [Nat.add_zero] at x0
    clear sA s1 s2
    go_simp
    with_reducible rfl
  refine wpX_take 8 (v := ?v8) rfl (by kernel_rfl) (by kernel_rfl) (by kernel_rfl) (by kernel_rfl) (fun _ _ _ h => h) HS.out (Or.inl ⟨by rfl, ?h8⟩) ?_
  case h8 =>
    intro W1 hS1
    obtain ⟨sA, s1, s2⟩ := hS1
    clear sA s1 s2
    go_simp
    with_reducible rfl
  refine wpX_take 9 (v := ?v9) rfl (by kernel_rfl) (by kernel_rfl) (by kernel_rfl) (by kernel_rfl) (fun _ _ _ h => h) HS.out (Or.inl ⟨by rfl, ?h9⟩) ?_
  case h9 =>
    intro W1 hS1
    obtain ⟨sA, s1, s2⟩ := hS1
    have b0 := sA.c0
    have b1 := sA.c1
    clear sA s1 s2
    go_simp
    with_reducible rfl
  refine wpX_take 10 (v := ?v10) rfl (by kernel_rfl) (by kernel_rfl) (by kernel_rfl) (by kernel_rfl) (fun _ _ _ h => h) HS.out (Or.inl ⟨by rfl, ?h10⟩) ?_
  case h10 =>
    intro W1 hS1
    obtain ⟨sA, s1, s2⟩ := hS1
    clear sA s1 s2
    go_simp
    with_reducible rfl
  refine wpX_take 11 (v := ?v11) rfl (by kernel_rfl) (by kernel_rfl) (by kernel_rfl) (by kernel_rfl) (fun _ _ _ h => h) HS.out (Or.inl ⟨by rfl, ?h11⟩) ?_
  case h11 =>
    intro W1 hS1
    obtain ⟨sA, s1, s2⟩ := hS1
    clear sA s1 s2
    go_simp
    with_reducible rfl
  refine wpX_take 12 (v := ?v12) rfl (by kernel_rfl) (by kernel_rfl) (by kernel_rfl) (by kernel_rfl) (fun _ _ _ h => h) HS.out (Or.inl ⟨by rfl, ?h12⟩) ?_
  case h12 =>
    intro W1 hS1
    obtain ⟨sA, s1, s2⟩ := hS1
    have x0 := s1.cell (j := 0) hi (by decide)
    have x1 := s1.cell (j := 1) hi (by decide)
    have x2 := s1.cell (j := 2) hi (by decide)
    have x3 := s1.cell (j := 3) hi (by decide)
    have x4 := s1.cell (j := 4) hi (by decide)
    have x5 := s1.cell (j := 5) hi (by decide)
    have x6 := s1.cell (j := 6) hi (by decide)
    have x7 := s1.cell (j := 7) hi (by decide)
    rw [Nat.add_zero] at x0
    clear sA s1 s2
    go_simp
    with_reducible rfl
  refine wpX_one 13 (by kernel_rfl) rfl (fun K hK => ?_)
  go_simp
  refine (rjoin_any (at_ th j) (at_ th i) _).mono ?_
  rintro e w1 ⟨rfl, hb⟩
  have hb' : Below W0.heap.size W0 w1 := (Below.refl W0.heap.size W0).drew.trans hb
  have hA1 := hA.belowS hb'
  have hD1 := hD.belowS hb'
  have hR11 := hR1.belowS hb'
  have hR21 := hR2.belowS hb'
  have hB1 : Below w.heap.size w w1 := hB.trans (hb'.mono hB.size)
  refine hK _ _ (fun _ => ⟨hA1, hR11.2, hR21.2⟩) ?_
  clear hK K hb hb' HS
  refine wpX_one 14 (by kernel_rfl) rfl (fun K hK => ?_)
  go_simp
  refine (set_in hR11 hj (jn (at_ th j) (at_ th i)) (by omega)).mono ?_
  rintro e w3 ⟨g, k, rfl, hR3, hb3, hge⟩
  have hA3 := hA1.belowS hb3
  have hD3 := hD1.belowS hb3
  have hR13 := hR11.belowS hb3
  have hR23 := hR21.belowS hb3
  have hB3 : Below w.heap.size w w3 := hB1.trans (hb3.mono hB1.size)
  have HS : Hid (Bx w3 w.heap.size (.slice (some ⟨g1, 0, none⟩) th.length k1) (.slice (some ⟨g2, 0, none⟩) pl.length k2) ∧ PRow w3 g1 23 th k1 ∧ PRow w3 g2 23 pl k2) := ⟨hA3, hR13.2, hR23.2⟩
  have hlt1 := hA1.lt
  refine hK _ _ (fun _ => HS.out) ?_
  clear hK K hb3
  refine wpX_take 15 (v := ?v15) rfl (by kernel_rfl) (by kernel_rfl) (by kernel_rfl) (by kernel_rfl) (fun _ _ _ h => h) HS.out (Or.inl ⟨by rfl, ?h15⟩) ?_
  case h15 =>
    intro W1 hS1
    obtain ⟨sA, s1, s2⟩ := hS1
    clear sA s1 s2
    go_simp
    with_reducible rfl
  refine wpX_one 16 (by kernel_rfl) rfl (fun K hK => ?_)
  have b0 := hA3.c0
  have b1 := hA3.c1
  have f0 := hA3.frozen 0
  have f1 := hA3.frozen 1
  go_simp
  refine hK _ _ (fun h => by cases h) ?_
  clear hK K b0 b1 f0 f1 HS
  refine wpX_done (by kernel_rfl) ?_ _
  have hd1 := hD1.lt
  have hA4 := hA3.set0 (.slice (some ⟨g, 0, none⟩) th.length k)
  have hg4 := grown_set w3 w.heap.size 0 (.slice (some ⟨g, 0, none⟩) th.length k)
  have hD4 := hD3.kept hg4 (nesome (by omega))
  have hR4 := hR3.kept hg4 (nesome (by omega))
  have hB4 : Below w.heap.size w _ := hB3.grown hg4 hB3.size (fun k e => by cases e; exact Nat.le_refl _)
  clear hg4 hA3 hD3 hR3 hB3 hR13 hR23 hA hD hB hR1 hR2 h1 h2 hA1 hR11 hR21
  generalize w3.setCell ⟨w.heap.size, 0, none⟩ (.slice (some ⟨g, 0, none⟩) th.length k) = W4 at *
  have a0 := hA4.c0
  have a1 := hA4.c1
  have d0 := hD4.c0
  have d1 := hD4.c1
  have df0 := hD4.frozen 0
  have df1 := hD4.frozen 1
  go_wp2
  have hD5 := hD4.set2 (.slice (some ⟨g, 0, none⟩) th.length k) (.slice (some ⟨g2, 0, none⟩) pl.length k2)
  have hB5 := hB4.grown (set2_grown W4 (w.heap.size + 1) (.slice (some ⟨g, 0, none⟩) th.length k) (.slice (some ⟨g2, 0, none⟩) pl.length k2)) hB4.size (fun k e => by cases e; exact Nat.le_succ _)
  have hR5 := hR4.kept (set2_grown W4 (w.heap.size + 1) (.slice (some ⟨g, 0, none⟩) th.length k) (.slice (some ⟨g2, 0, none⟩) pl.length k2)) (nesome (by omega))
  refine end_wt hD5 rfl rfl rfl rfl ?_
  exact ⟨g, k, rfl, hR5, hB5, by omega⟩

set_option maxRecDepth 100000 in
set_option maxHeartbeats 4000000 in
theorem rmove_meet {w : World} {g1 k1 g2 k2 : Nat} {th pl : List Ck} (h1 : RL w g1 k1 th) (h2 : RL w g2 k2 pl) {i j : Nat} (hi : i < th.length) (hj : j < th.length) (hn : th.length ≤ 8) (_hm : pl.length ≤ 65536) :
    Calls Tryd.prog 56 #[.agg #[.slice (some ⟨g1, 0, none⟩) th.length k1, .slice (some ⟨g2, 0, none⟩) pl.length k2], .int .i64 3, .int .i64 (i : Int), .int .i64 (j : Int)] w fun e w' => ∃ g k, e = .returned (.tuple #[.agg #[.slice (some ⟨g, 0, none⟩) th.length k, .slice (some ⟨g2, 0, none⟩) pl.length k2], .int .i64 0]) ∧
      RL w' g k (th.set i (jn (at_ th i) (at_ th j))) ∧ Below w.heap.size w w' ∧ w.heap.size ≤ g := by
  have hmx : Tryd.prog.follows .mixedOrders = true := by kernel_rfl
  have hB := moveW_below w (.slice (some ⟨g1, 0, none⟩) th.length k1) (.slice (some ⟨g2, 0, none⟩) pl.length k2)
  have hA := moveW_a w (.slice (some ⟨g1, 0, none⟩) th.length k1) (.slice (some ⟨g2, 0, none⟩) pl.length k2)
  have hD := moveW_b w (.slice (some ⟨g1, 0, none⟩) th.length k1) (.slice (some ⟨g2, 0, none⟩) pl.length k2)
  have hR1 := h1.belowS hB
  have hR2 := h2.belowS hB
  go_enter Tryd.func56, Tryd.ntmps56
  go_wp2_with fail
  change Calls _ _ _ (moveW w (.slice (some ⟨g1, 0, none⟩) th.length k1) (.slice (some ⟨g2, 0, none⟩) pl.length k2)) _
  generalize moveW w (.slice (some ⟨g1, 0, none⟩) th.length k1) (.slice (some ⟨g2, 0, none⟩) pl.length k2) = W0 at *
  have a0 := hA.c0
  have a1 := hA.c1
  refine (in_yes _ g1 th.length k1 (i : Int) (by omega) (by omega)).mono ?_
  rintro e w' ⟨rfl, rfl⟩
  go_wp2_with fail
  refine (in_yes _ g1 th.length k1 (j : Int) (by omega) (by omega)).mono ?_
  rintro e w' ⟨rfl, rfl⟩
  clear a0 a1
  go_wp2_with fail
  refine wp_region_x [16] (fun W1 => Bx W1 w.heap.size (.slice (some ⟨g1, 0, none⟩) th.length k1) (.slice (some ⟨g2, 0, none⟩) pl.length k2) ∧ PRow W1 g1 23 th k1 ∧ PRow W1 g2 23 pl k2) hmx ?_
  have HS : Hid (Bx W0.drew w.heap.size (.slice (some ⟨g1, 0, none⟩) th.length k1) (.slice (some ⟨g2, 0, none⟩) pl.length k2) ∧ PRow W0.drew g1 23 th k1 ∧ PRow W0.drew g2 23 pl k2) := ⟨hA.drew, hR1.drew.2, hR2.drew.2⟩
  refine wpX_take 0 (v := ?v0) rfl (by kernel_rfl) (by kernel_rfl) (by kernel_rfl) (by kernel_rfl) (fun _ _ _ h => h) HS.out (Or.inl ⟨by rfl, ?h0⟩) ?_
  case h0 =>
    intro W1 hS1
    obtain ⟨sA, s1, s2⟩ := hS1
    clear sA s1 s2
    go_simp
    with_reducible rfl
  refine wpX_take 1 (v := ?v1) rfl (by kernel_rfl) (by kernel_rfl) (by kernel_rfl) (by kernel_rfl) (fun _ _ _ h => h) HS.out (Or.inl ⟨by rfl, ?h1⟩) ?_
  case h1 =>
    intro W1 hS1
    obtain ⟨sA, s1, s2⟩ := hS1
    have b0 := sA.c0
    have b1 := sA.c1
    clear sA s1 s2
    go_simp
    with_reducible rfl
  refine wpX_take 2 (v := ?v2) rfl (by kernel_rfl) (by kernel_rfl) (by kernel_rfl) (by kernel_rfl) (fun _ _ _ h => h) HS.out (Or.inl ⟨by rfl, ?h2⟩) ?_
  case h2 =>
    intro W1 hS1
    obtain ⟨sA, s1, s2⟩ := hS1
    clear sA s1 s2
    go_simp
    with_reducible rfl
  refine wpX_take 3 (v := ?v3) rfl (by kernel_rfl) (by kernel_rfl) (by kernel_rfl) (by kernel_rfl) (fun _ _ _ h => h) HS.out (Or.inl ⟨by rfl, ?h3⟩) ?_
  case h3 =>
    intro W1 hS1
    obtain ⟨sA, s1, s2⟩ := hS1
    clear sA s1 s2
    go_simp
    with_reducible rfl
  refine wpX_take 4 (v := ?v4) rfl (by kernel_rfl) (by kernel_rfl) (by kernel_rfl) (by kernel_rfl) (fun _ _ _ h => h) HS.out (Or.inl ⟨by rfl, ?h4⟩) ?_
  case h4 =>
    intro W1 hS1
    obtain ⟨sA, s1, s2⟩ := hS1
    have b0 := sA.c0
    have b1 := sA.c1
    clear sA s1 s2
    go_simp
    with_reducible rfl
  refine wpX_take 5 (v := ?v5) rfl (by kernel_rfl) (by kernel_rfl) (by kernel_rfl) (by kernel_rfl) (fun _ _ _ h => h) HS.out (Or.inl ⟨by rfl, ?h5⟩) ?_
  case h5 =>
    intro W1 hS1
    obtain ⟨sA, s1, s2⟩ := hS1
    clear sA s1 s2
    go_simp
    with_reducible rfl
  refine wpX_take 6 (v := ?v6) rfl (by kernel_rfl) (by kernel_rfl) (by kernel_rfl) (by kernel_rfl) (fun _ _ _ h => h) HS.out (Or.inl ⟨by rfl, ?h6⟩) ?_
  case h6 =>
    intro W1 hS1
    obtain ⟨sA, s1, s2⟩ := hS1
    clear sA s1 s2
    go_simp
    with_reducible rfl
  refine wpX_take 7 (v := ?v7) rfl (by kernel_rfl) (by kernel_rfl) (by kernel_rfl) (by kernel_rfl) (fun _ _ _ h => h) HS.out (Or.inl ⟨by rfl, ?h7⟩) ?_
  case h7 =>
    intro W1 hS1
    obtain ⟨sA, s1, s2⟩ := hS1
    have x0 := s1.cell (j := 0) hi (by decide)
    have x1 := s1.cell (j := 1) hi (by decide)
    have x2 := s1.cell (j := 2) hi (by decide)
    have x3 := s1.cell (j := 3) hi (by decide)
    have x4 := s1.cell (j := 4) hi (by decide)
    have x5 := s1.cell (j := 5) hi (by decide)
    have x6 := s1.cell (j := 6) hi (by decide)
    have x7 := s1.cell (j := 7) hi (by decide)
    rw [Nat.add_zero] at x0
    clear sA s1 s2
    go_simp
    with_reducible rfl
  refine wpX_take 8 (v := ?v8) rfl (by kernel_rfl) (by kernel_rfl) (by kernel_rfl) (by kernel_rfl) (fun _ _ _ h => h) HS.out (Or.inl ⟨by rfl, ?h8⟩) ?_
  case h8 =>
    intro W1 hS1
    obtain ⟨sA, s1, s2⟩ := hS1
    clear sA s1 s2
    go_simp
    with_reducible rfl
  refine wpX_take 9 (v := ?v9) rfl (by kernel_rfl) (by kernel_rfl) (by kernel_rfl) (by kernel_rfl) (fun _ _ _ h => h) HS.out (Or.inl ⟨by rfl, ?h9⟩) ?_
  case h9 =>
    intro W1 hS1
    obtain ⟨sA, s1, s2⟩ := hS1
    have b0 := sA.c0
    have b1 := sA.c1
    clear sA s1 s2
    go_simp
    with_reducible rfl
  refine wpX_take 10 (v := ?v10) rfl (by kernel_rfl) (by kernel_rfl) (by kernel_rfl) (by kernel_rfl) (fun _ _ _ h => h) HS.out (Or.inl ⟨by rfl, ?h10⟩) ?_
  case h10 =>
    intro W1 hS1
    obtain ⟨sA, s1, s2⟩ := hS1
    clear sA s1 s2
    go_simp
    with_reducible rfl
  refine wpX_take 11 (v := ?v11) rfl (by kernel_rfl) (by kernel_rfl) (by kernel_rfl) (by kernel_rfl) (fun _ _ _ h => h) HS.out (Or.inl ⟨by rfl, ?h11⟩) ?_
  case h11 =>
    intro W1 hS1
    obtain ⟨sA, s1, s2⟩ := hS1
    clear sA s1 s2
    go_simp
    with_reducible rfl
  refine wpX_take 12 (v := ?v12) rfl (by kernel_rfl) (by kernel_rfl) (by kernel_rfl) (by kernel_rfl) (fun _ _ _ h => h) HS.out (Or.inl ⟨by rfl, ?h12⟩) ?_
  case h12 =>
    intro W1 hS1
    obtain ⟨sA, s1, s2⟩ := hS1
    have x0 := s1.cell (j := 0) hj (by decide)
    have x1 := s1.cell (j := 1) hj (by decide)
    have x2 := s1.cell (j := 2) hj (by decide)
    have x3 := s1.cell (j := 3) hj (by decide)
    have x4 := s1.cell (j := 4) hj (by decide)
    have x5 := s1.cell (j := 5) hj (by decide)
    have x6 := s1.cell (j := 6) hj (by decide)
    have x7 := s1.cell (j := 7) hj (by decide)
    rw [Nat.add_zero] at x0
    clear sA s1 s2
    go_simp
    with_reducible rfl
  refine wpX_one 13 (by kernel_rfl) rfl (fun K hK => ?_)
  go_simp
  refine (rjoin_any (at_ th i) (at_ th j) _).mono ?_
  rintro e w1 ⟨rfl, hb⟩
  have hb' : Below W0.heap.size W0 w1 := (Below.refl W0.heap.size W0).drew.trans hb
  have hA1 := hA.belowS hb'
  have hD1 := hD.belowS hb'
  have hR11 := hR1.belowS hb'
  have hR21 := hR2.belowS hb'
  have hB1 : Below w.heap.size w w1 := hB.trans (hb'.mono hB.size)
  refine hK _ _ (fun _ => ⟨hA1, hR11.2, hR21.2⟩) ?_
  clear hK K hb hb' HS
  refine wpX_one 14 (by kernel_rfl) rfl (fun K hK => ?_)
  go_simp
  refine (set_in hR11 hi (jn (at_ th i) (at_ th j)) (by omega)).mono ?_
  rintro e w3 ⟨g, k, rfl, hR3, hb3, hge⟩
  have hA3 := hA1.belowS hb3
  have hD3 := hD1.belowS hb3
  have hR13 := hR11.belowS hb3
  have hR23 := hR21.belowS hb3
  have hB3 : Below w.heap.size w w3 := hB1.trans (hb3.mono hB1.size)
  have HS : Hid (Bx w3 w.heap.size (.slice (some ⟨g1, 0, none⟩) th.length k1) (.slice (some ⟨g2, 0, none⟩) pl.length k2) ∧ PRow w3 g1 23 th k1 ∧ PRow w3 g2 23 pl k2) := ⟨hA3, hR13.2, hR23.2⟩
  have hlt1 := hA1.lt
  refine hK _ _ (fun _ => HS.out) ?_
  clear hK K hb3
  refine wpX_take 15 (v := ?v15) rfl (by kernel_rfl) (by kernel_rfl) (by kernel_rfl) (by kernel_rfl) (fun _ _ _ h => h) HS.out (Or.inl ⟨by rfl, ?h15⟩) ?_
  case h15 =>
    intro W1 hS1
    obtain ⟨sA, s1, s2⟩ := hS1
    clear sA s1 s2
    go_simp
    with_reducible rfl
  refine wpX_one 16 (by kernel_rfl) rfl (fun K hK => ?_)
  have b0 := hA3.c0
  have b1 := hA3.c1
  have f0 := hA3.frozen 0
  have f1 := hA3.frozen 1
  go_simp
  refine hK _ _ (fun h => by cases h) ?_
  clear hK K b0 b1 f0 f1 HS
  refine wpX_done (by kernel_rfl) ?_ _
  have hd1 := hD1.lt
  have hA4 := hA3.set0 (.slice (some ⟨g, 0, none⟩) th.length k)
  have hg4 := grown_set w3 w.heap.size 0 (.slice (some ⟨g, 0, none⟩) th.length k)
  have hD4 := hD3.kept hg4 (nesome (by omega))
  have hR4 := hR3.kept hg4 (nesome (by omega))
  have hB4 : Below w.heap.size w _ := hB3.grown hg4 hB3.size (fun k e => by cases e; exact Nat.le_refl _)
  clear hg4 hA3 hD3 hR3 hB3 hR13 hR23 hA hD hB hR1 hR2 h1 h2 hA1 hR11 hR21
  generalize w3.setCell ⟨w.heap.size, 0, none⟩ (.slice (some ⟨g, 0, none⟩) th.length k) = W4 at *
  have a0 := hA4.c0
  have a1 := hA4.c1
  have d0 := hD4.c0
  have d1 := hD4.c1
  have df0 := hD4.frozen 0
  have df1 := hD4.frozen 1
  go_wp2
  have hD5 := hD4.set2 (.slice (some ⟨g, 0, none⟩) th.length k) (.slice (some ⟨g2, 0, none⟩) pl.length k2)
  have hB5 := hB4.grown (set2_grown W4 (w.heap.size + 1) (.slice (some ⟨g, 0, none⟩) th.length k) (.slice (some ⟨g2, 0, none⟩) pl.length k2)) hB4.size (fun k e => by cases e; exact Nat.le_succ _)
  have hR5 := hR4.kept (set2_grown W4 (w.heap.size + 1) (.slice (some ⟨g, 0, none⟩) th.length k) (.slice (some ⟨g2, 0, none⟩) pl.length k2)) (nesome (by omega))
  refine end_wt hD5 rfl rfl rfl rfl ?_
  exact ⟨g, k, rfl, hR5, hB5, by omega⟩
end Go.Proofs.YtnalpladieoegaaDoor
