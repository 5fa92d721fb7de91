/- The law on two clocks' order. -/
import Derived.Test.YtnalpladieoegaaDoorLawB
namespace Go.Proofs.YtnalpladieoegaaDoor
open Go.RowKit Go.Shelf

set_option maxRecDepth 100000 in
set_option maxHeartbeats 4000000 in
theorem orders_in (x y q : Bool) (a b : Ck) (w : World) (ht : Tab w) (h0 : 0 < w.heap.size) (heq : ∀ w, (Op.equalIn 10000 23 (.agg (cl a)) (.agg (cl b))).run Tryd.prog w = .ok q w)
    (c1 : ∀ w, Calls Tryd.prog 20 #[.agg (cl a), .agg (cl b)] w fun e w' => e = .returned (.bool x) ∧ Below w.heap.size w w')
    (c2 : ∀ w, Calls Tryd.prog 20 #[.agg (cl b), .agg (cl a)] w fun e w' => e = .returned (.bool y) ∧ Below w.heap.size w w')
    (c3 : ∀ w, Calls Tryd.prog 21 #[.agg (cl a), .agg (cl b)] w fun e w' => e = .returned (.bool x) ∧ Below w.heap.size w w')
    (c4 : ∀ w, Calls Tryd.prog 22 #[.agg (cl a), .agg (cl b)] w fun e w' => e = .returned (.bool (!q && x)) ∧ Below w.heap.size w w')
    (c5 : ∀ w, Calls Tryd.prog 23 #[.agg (cl a), .agg (cl b)] w fun e w' => e = .returned (.bool (!x && !y)) ∧ Below w.heap.size w w') :
    Calls Tryd.prog 6 #[.agg (cl a), .agg (cl b)] w fun e w' => e = .returned (.bool true) ∧ Below w.heap.size w w' := by
  have hmx : Tryd.prog.follows .mixedOrders = true := by kernel_rfl
  have hB : Below w.heap.size w ((w.alloc (.cells (cl a) 23)).alloc (.cells (cl b) 23)) := ((Below.refl _ w).alloc (Nat.le_refl _) _).alloc (by simp) _
  have hA := (Blk.new w 23 a).alloc (.cells (cl b) 23)
  have hC := Blk.new (w.alloc (.cells (cl a) 23)) 23 b
  rw [World.size_alloc] at hC
  go_enter Tryd.func6, Tryd.ntmps6
  go_wp2_with fail
  refine wp_region_x [] (fun W1 => Cells W1 w.heap.size a ∧ Cells W1 (w.heap.size + 1) b) hmx ?_
  have hB0 := hB.drew
  have hA0 := hA.drew
  have hC0 := hC.drew
  clear hB hA hC
  have HB := Lib.hid hB0
  clear hB0
  refine wpX_take 0 (v := ?v0) rfl (by kernel_rfl) (by kernel_rfl) (by kernel_rfl) (by kernel_rfl) (fun _ _ _ h => h) ⟨hA0.cells, hC0.cells⟩ (Or.inl ⟨by rfl, ?h0⟩) ?_
  case h0 =>
    intro W1 hS1
    have s1 := hS1.1
    have x0 := s1 0 (by decide)
    have x1 := s1 1 (by decide)
    have x2 := s1 2 (by decide)
    have x3 := s1 3 (by decide)
    have x4 := s1 4 (by decide)
    have x5 := s1 5 (by decide)
    have x6 := s1 6 (by decide)
    have x7 := s1 7 (by decide)
    clear s1 hS1
    go_simp
    with_reducible rfl
  refine wpX_take 1 (v := ?v1) rfl (by kernel_rfl) (by kernel_rfl) (by kernel_rfl) (by kernel_rfl) (fun _ _ _ h => h) ⟨hA0.cells, hC0.cells⟩ (Or.inl ⟨by rfl, ?h1⟩) ?_
  case h1 =>
    intro W1 hS1
    have s1 := hS1.2
    have x0 := s1 0 (by decide)
    have x1 := s1 1 (by decide)
    have x2 := s1 2 (by decide)
    have x3 := s1 3 (by decide)
    have x4 := s1 4 (by decide)
    have x5 := s1 5 (by decide)
    have x6 := s1 6 (by decide)
    have x7 := s1 7 (by decide)
    clear s1 hS1
    go_simp
    with_reducible rfl
  refine wpX_take 3 (v := ?v3) rfl (by kernel_rfl) (by kernel_rfl) (by kernel_rfl) (by kernel_rfl) (fun _ _ _ h => h) ⟨hA0.cells, hC0.cells⟩ (Or.inl ⟨by rfl, ?h3⟩) ?_
  case h3 =>
    intro W1 hS1
    have s1 := hS1.2
    have x0 := s1 0 (by decide)
    have x1 := s1 1 (by decide)
    have x2 := s1 2 (by decide)
    have x3 := s1 3 (by decide)
    have x4 := s1 4 (by decide)
    have x5 := s1 5 (by decide)
    have x6 := s1 6 (by decide)
    have x7 := s1 7 (by decide)
    clear s1 hS1
    go_simp
    with_reducible rfl
  refine wpX_take 4 (v := ?v4) rfl (by kernel_rfl) (by kernel_rfl) (by kernel_rfl) (by kernel_rfl) (fun _ _ _ h => h) ⟨hA0.cells, hC0.cells⟩ (Or.inl ⟨by rfl, ?h4⟩) ?_
  case h4 =>
    intro W1 hS1
    have s1 := hS1.1
    have x0 := s1 0 (by decide)
    have x1 := s1 1 (by decide)
    have x2 := s1 2 (by decide)
    have x3 := s1 3 (by decide)
    have x4 := s1 4 (by decide)
    have x5 := s1 5 (by decide)
    have x6 := s1 6 (by decide)
    have x7 := s1 7 (by decide)
    clear s1 hS1
    go_simp
    with_reducible rfl
  have hB0 := HB.out
  refine wpX_one 2 (by kernel_rfl) rfl (fun K hK => ?_)
  go_simp
  have z0 := hB0.size
  refine (c1 _ ).mono ?_
  rintro e w1 ⟨rfl, hb⟩
  have hB1 : Below w.heap.size w w1 := hB0.trans (hb.mono z0)
  have hA1 := hA0.below hb hA0.lt
  have hC1 := hC0.below hb hC0.lt
  clear hb z0 hB0 hA0 hC0
  refine hK _ _ (fun _ => ⟨hA1.cells, hC1.cells⟩) ?_
  clear hK K
  refine wpX_one 5 (by kernel_rfl) rfl (fun K hK => ?_)
  go_simp
  have z1 := hB1.size
  refine (c2 _ ).mono ?_
  rintro e w2 ⟨rfl, hb⟩
  have hB2 : Below w.heap.size w w2 := hB1.trans (hb.mono z1)
  have hA2 := hA1.below hb hA1.lt
  have hC2 := hC1.below hb hC1.lt
  clear hb z1 hB1 hA1 hC1
  refine hK _ _ (fun _ => ⟨hA2.cells, hC2.cells⟩) ?_
  clear hK K
  refine wpX_one 6 (by kernel_rfl) rfl (fun K hK => ?_)
  go_simp
  refine hK _ _ (fun _ => ⟨hA2.cells, hC2.cells⟩) ?_
  clear hK K
  refine wpX_one 7 (by kernel_rfl) rfl (fun K hK => ?_)
  go_simp
  refine hK _ _ (fun _ => ⟨hA2.cells, hC2.cells⟩) ?_
  clear hK K
  refine wpX_done (by kernel_rfl) ?_ _
  clear c1 c2 HB
  cases x <;> cases y <;> cases q
  all_goals
    simp only [Bool.not_true, Bool.not_false, Bool.and_true, Bool.and_false] at c4 c5
    have x0 := hA2.cells 0 (by decide)
    have x1 := hA2.cells 1 (by decide)
    have x2 := hA2.cells 2 (by decide)
    have x3 := hA2.cells 3 (by decide)
    have x4 := hA2.cells 4 (by decide)
    have x5 := hA2.cells 5 (by decide)
    have x6 := hA2.cells 6 (by decide)
    have x7 := hA2.cells 7 (by decide)
    have y0 := hC2.cells 0 (by decide)
    have y1 := hC2.cells 1 (by decide)
    have y2 := hC2.cells 2 (by decide)
    have y3 := hC2.cells 3 (by decide)
    have y4 := hC2.cells 4 (by decide)
    have y5 := hC2.cells 5 (by decide)
    have y6 := hC2.cells 6 (by decide)
    have y7 := hC2.cells 7 (by decide)
    go_wp2_with fail
    have z2 := hB2.size
    refine (c3 _ ).mono ?_
    rintro e w3 ⟨rfl, hb⟩
    have hB3 : Below w.heap.size w w3 := hB2.trans (hb.mono z2)
    have hA3 := hA2.below hb hA2.lt
    have hC3 := hC2.below hb hC2.lt
    clear hb z2 hB2 hA2 hC2
    clear x0 x1 x2 x3 x4 x5 x6 x7 y0 y1 y2 y3 y4 y5 y6 y7
    have x0 := hA3.cells 0 (by decide)
    have x1 := hA3.cells 1 (by decide)
    have x2 := hA3.cells 2 (by decide)
    have x3 := hA3.cells 3 (by decide)
    have x4 := hA3.cells 4 (by decide)
    have x5 := hA3.cells 5 (by decide)
    have x6 := hA3.cells 6 (by decide)
    have x7 := hA3.cells 7 (by decide)
    have y0 := hC3.cells 0 (by decide)
    have y1 := hC3.cells 1 (by decide)
    have y2 := hC3.cells 2 (by decide)
    have y3 := hC3.cells 3 (by decide)
    have y4 := hC3.cells 4 (by decide)
    have y5 := hC3.cells 5 (by decide)
    have y6 := hC3.cells 6 (by decide)
    have y7 := hC3.cells 7 (by decide)
    go_wp2_with fail
    have z3 := hB3.size
    refine (c4 _ ).mono ?_
    rintro e w4 ⟨rfl, hb⟩
    have hB4 : Below w.heap.size w w4 := hB3.trans (hb.mono z3)
    have hA4 := hA3.below hb hA3.lt
    have hC4 := hC3.below hb hC3.lt
    clear hb z3 hB3 hA3 hC3
    clear x0 x1 x2 x3 x4 x5 x6 x7 y0 y1 y2 y3 y4 y5 y6 y7
    have x0 := hA4.cells 0 (by decide)
    have x1 := hA4.cells 1 (by decide)
    have x2 := hA4.cells 2 (by decide)
    have x3 := hA4.cells 3 (by decide)
    have x4 := hA4.cells 4 (by decide)
    have x5 := hA4.cells 5 (by decide)
    have x6 := hA4.cells 6 (by decide)
    have x7 := hA4.cells 7 (by decide)
    have y0 := hC4.cells 0 (by decide)
    have y1 := hC4.cells 1 (by decide)
    have y2 := hC4.cells 2 (by decide)
    have y3 := hC4.cells 3 (by decide)
    have y4 := hC4.cells 4 (by decide)
    have y5 := hC4.cells 5 (by decide)
    have y6 := hC4.cells 6 (by decide)
    have y7 := hC4.cells 7 (by decide)
    go_wp2_with fail
    have z4 := hB4.size
    refine (c5 _ ).mono ?_
    rintro e w5 ⟨rfl, hb⟩
    have hB5 : Below w.heap.size w w5 := hB4.trans (hb.mono z4)
    have hA5 := hA4.below hb hA4.lt
    have hC5 := hC4.below hb hC4.lt
    clear hb z4 hB4 hA4 hC4
    clear x0 x1 x2 x3 x4 x5 x6 x7 y0 y1 y2 y3 y4 y5 y6 y7
    go_wp2_with fail
    refine (works_any _ (ht.below hB5 h0) (by have := hB5.size; omega)).mono ?_
    rintro e w5 ⟨rfl, hb⟩
    have hB6 : Below w.heap.size w w5 := hB5.trans (hb.mono hB5.size)
    go_wp2
    go_ret
    exact ⟨rfl, hB6⟩

theorem orders_any (a b : Ck) (w : World) (ht : Tab w) (h0 : 0 < w.heap.size) : Calls Tryd.prog 6 #[.agg (cl a), .agg (cl b)] w fun e w' => e = .returned (.bool true) ∧ Below w.heap.size w w' :=
  orders_in (wiB a b) (wiB b a) (eqB a b) a b w ht h0 (fun w => eqc_run Tryd.underlying23 a b w) (fun w => rwithin_any a b w) (fun w => rwithin_any b a w) (fun w => Within_any a b w) (fun w => Before_any a b w) (fun w => Apart_any a b w)
end Go.Proofs.YtnalpladieoegaaDoor
