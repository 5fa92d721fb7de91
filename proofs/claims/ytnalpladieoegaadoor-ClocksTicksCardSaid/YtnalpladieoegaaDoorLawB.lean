/- The laws on two clocks' join, on their order, and on a tick. -/
import Derived.Test.YtnalpladieoegaaDoorLawA
import Derived.Test.YtnalpladieoegaaDoorRjoin
import Derived.Test.YtnalpladieoegaaDoorTick
namespace Go.Proofs.YtnalpladieoegaaDoor
open Go.RowKit Go.Shelf

theorem eqB_refl (a : Ck) : eqB a a = true := by simp [eqB]

set_option maxRecDepth 100000 in
set_option maxHeartbeats 1000000 in
theorem joins_any (a b : Ck) (w : World) (ht : Tab w) (h0 : 0 < w.heap.size) : Calls Tryd.prog 5 #[.agg (cl a), .agg (cl b)] w fun e w' => e = .returned (.bool true) ∧ Below w.heap.size w w' := by
  have hmx : Tryd.prog.follows .mixedOrders = true := by kernel_rfl
  have hB : Below w.heap.size w ((w.alloc (.cells (cl a) 23)).alloc (.cells (cl b) 23)) := ((Below.refl _ w).alloc (Nat.le_refl _) _).alloc (by simp) _
  have hA := (Blk.new w 23 a).alloc (.cells (cl b) 23)
  have hC := Blk.new (w.alloc (.cells (cl a) 23)) 23 b
  rw [World.size_alloc] at hC
  obtain ⟨x, hx⟩ : ∃ x, jn a b = x := ⟨_, rfl⟩
  have cj : ∀ w, Calls Tryd.prog 18 #[.agg (cl a), .agg (cl b)] w fun e w' => e = .returned (.agg (cl x)) ∧ Below w.heap.size w w' := fun w => hx ▸ Join_any a b w
  have cr : ∀ w, Calls Tryd.prog 19 #[.agg (cl a), .agg (cl b)] w fun e w' => e = .returned (.agg (cl x)) ∧ Below w.heap.size w w' := fun w => hx ▸ rjoin_any a b w
  clear hx
  have heq := fun w => eqc_run Tryd.underlying23 x x w
  rw [eqB_refl] at heq
  go_enter Tryd.func5, Tryd.ntmps5
  go_wp2_with fail
  refine wp_region_x [] (fun W1 => Cells W1 w.heap.size a ∧ Cells W1 (w.heap.size + 1) b) hmx ?_
  have hB0 := hB.drew
  have hA0 := hA.drew
  have hC0 := hC.drew
  clear hB hA hC
  have HB := Lib.hid hB0
  clear hB0
  refine wpX_take 0 (v := ?v0) rfl (by kernel_rfl) (by kernel_rfl) (by kernel_rfl) (by kernel_rfl) (fun _ _ _ h => h) ⟨hA0.cells, hC0.cells⟩ (Or.inl ⟨by rfl, ?h0⟩) ?_
  case h0 =>
    intro W1 hS1
    have s1 := hS1.1
    have x0 := s1 0 (by decide)
    have x1 := s1 1 (by decide)
    have x2 := s1 2 (by decide)
    have x3 := s1 3 (by decide)
    have x4 := s1 4 (by decide)
    have x5 := s1 5 (by decide)
    have x6 := s1 6 (by decide)
    have x7 := s1 7 (by decide)
    clear s1 hS1
    go_simp
    with_reducible rfl
  refine wpX_take 1 (v := ?v1) rfl (by kernel_rfl) (by kernel_rfl) (by kernel_rfl) (by kernel_rfl) (fun _ _ _ h => h) ⟨hA0.cells, hC0.cells⟩ (Or.inl ⟨by rfl, ?h1⟩) ?_
  case h1 =>
    intro W1 hS1
    have s1 := hS1.2
    have x0 := s1 0 (by decide)
    have x1 := s1 1 (by decide)
    have x2 := s1 2 (by decide)
    have x3 := s1 3 (by decide)
    have x4 := s1 4 (by decide)
    have x5 := s1 5 (by decide)
    have x6 := s1 6 (by decide)
    have x7 := s1 7 (by decide)
    clear s1 hS1
    go_simp
    with_reducible rfl
  refine wpX_take 3 (v := ?v3) rfl (by kernel_rfl) (by kernel_rfl) (by kernel_rfl) (by kernel_rfl) (fun _ _ _ h => h) ⟨hA0.cells, hC0.cells⟩ (Or.inl ⟨by rfl, ?h3⟩) ?_
  case h3 =>
    intro W1 hS1
    have s1 := hS1.1
    have x0 := s1 0 (by decide)
    have x1 := s1 1 (by decide)
    have x2 := s1 2 (by decide)
    have x3 := s1 3 (by decide)
    have x4 := s1 4 (by decide)
    have x5 := s1 5 (by decide)
    have x6 := s1 6 (by decide)
    have x7 := s1 7 (by decide)
    clear s1 hS1
    go_simp
    with_reducible rfl
  refine wpX_take 4 (v := ?v4) rfl (by kernel_rfl) (by kernel_rfl) (by kernel_rfl) (by kernel_rfl) (fun _ _ _ h => h) ⟨hA0.cells, hC0.cells⟩ (Or.inl ⟨by rfl, ?h4⟩) ?_
  case h4 =>
    intro W1 hS1
    have s1 := hS1.2
    have x0 := s1 0 (by decide)
    have x1 := s1 1 (by decide)
    have x2 := s1 2 (by decide)
    have x3 := s1 3 (by decide)
    have x4 := s1 4 (by decide)
    have x5 := s1 5 (by decide)
    have x6 := s1 6 (by decide)
    have x7 := s1 7 (by decide)
    clear s1 hS1
    go_simp
    with_reducible rfl
  have hB0 := HB.out
  refine wpX_one 2 (by kernel_rfl) rfl (fun K hK => ?_)
  go_simp
  have z0 := hB0.size
  refine (cj _ ).mono ?_
  rintro e w1 ⟨rfl, hb⟩
  have hB1 : Below w.heap.size w w1 := hB0.trans (hb.mono z0)
  have hA1 := hA0.below hb hA0.lt
  have hC1 := hC0.below hb hC0.lt
  clear hb z0 hB0 hA0 hC0
  refine hK _ _ (fun _ => ⟨hA1.cells, hC1.cells⟩) ?_
  clear hK K
  refine wpX_one 5 (by kernel_rfl) rfl (fun K hK => ?_)
  go_simp
  have z1 := hB1.size
  refine (cr _ ).mono ?_
  rintro e w2 ⟨rfl, hb⟩
  have hB2 : Below w.heap.size w w2 := hB1.trans (hb.mono z1)
  have hA2 := hA1.below hb hA1.lt
  have hC2 := hC1.below hb hC1.lt
  clear hb z1 hB1 hA1 hC1
  refine hK _ _ (fun _ => ⟨hA2.cells, hC2.cells⟩) ?_
  clear hK K
  refine wpX_one 6 (by kernel_rfl) rfl (fun K hK => ?_)
  go_simp
  refine hK _ _ (fun _ => ⟨hA2.cells, hC2.cells⟩) ?_
  clear hK K
  refine wpX_one 7 (by kernel_rfl) rfl (fun K hK => ?_)
  go_simp
  refine hK _ _ (fun _ => ⟨hA2.cells, hC2.cells⟩) ?_
  clear hK K
  refine wpX_one 8 (by kernel_rfl) rfl (fun K hK => ?_)
  go_simp
  have z2 := hB2.size
  refine (works_any _ (ht.below hB2 h0) (by omega)).mono ?_
  rintro e w3 ⟨rfl, hb⟩
  have hB3 : Below w.heap.size w w3 := hB2.trans (hb.mono z2)
  have hA3 := hA2.below hb hA2.lt
  have hC3 := hC2.below hb hC2.lt
  clear hb z2 hB2 hA2 hC2
  refine hK _ _ (fun _ => ⟨hA3.cells, hC3.cells⟩) ?_
  clear hK K
  refine wpX_one 9 (by kernel_rfl) rfl (fun K hK => ?_)
  go_simp
  refine hK _ _ (fun _ => ⟨hA3.cells, hC3.cells⟩) ?_
  clear hK K
  refine wpX_one 10 (by kernel_rfl) rfl (fun K hK => ?_)
  go_simp
  refine hK _ _ (fun _ => ⟨hA3.cells, hC3.cells⟩) ?_
  clear hK K
  refine wpX_done (by kernel_rfl) ?_ _
  go_wp2
  go_ret
  exact ⟨rfl, hB3⟩

set_option maxRecDepth 100000 in
set_option maxHeartbeats 1000000 in
theorem ticks_any (c : Ck) (t : Int) (w : World) (ht : Tab w) (h0 : 0 < w.heap.size) : Calls Tryd.prog 3 #[.agg (cl c), .int .i64 t] w fun e w' => e = .returned (.bool true) ∧ Below w.heap.size w w' := by
  have hB0 : Below w.heap.size w (w.alloc (.cells (cl c) 23)) := (Below.refl _ w).alloc (Nat.le_refl _) _
  have hA0 := Blk.new w 23 c
  obtain ⟨d, hd⟩ : ∃ d, (tk c t).1 = d := ⟨_, rfl⟩
  obtain ⟨n, hn⟩ : ∃ n, (tk c t).2 = n := ⟨_, rfl⟩
  have cj : ∀ w, Calls Tryd.prog 12 #[.agg (cl c), .int .i64 t] w fun e w' => e = .returned (.tuple #[.agg (cl d), .int .i64 n]) ∧ Below w.heap.size w w' := fun w => hd ▸ hn ▸ Tick_any c t w
  have cr : ∀ w, Calls Tryd.prog 13 #[.agg (cl c), .int .i64 t] w fun e w' => e = .returned (.tuple #[.agg (cl d), .int .i64 n]) ∧ Below w.heap.size w w' := fun w => hd ▸ hn ▸ rtick_any c t w
  clear hd hn
  have heq := fun w => eqc_run Tryd.underlying23 d d w
  rw [eqB_refl] at heq
  have x0 := hA0.cells 0 (by decide)
  have x1 := hA0.cells 1 (by decide)
  have x2 := hA0.cells 2 (by decide)
  have x3 := hA0.cells 3 (by decide)
  have x4 := hA0.cells 4 (by decide)
  have x5 := hA0.cells 5 (by decide)
  have x6 := hA0.cells 6 (by decide)
  have x7 := hA0.cells 7 (by decide)
  go_enter Tryd.func3, Tryd.ntmps3
  go_wp2_with fail
  have z0 := hB0.size
  refine (cj _).mono ?_
  rintro e w1 ⟨rfl, hb⟩
  have hB1 : Below w.heap.size w w1 := hB0.trans (hb.mono z0)
  have hA1 := hA0.below hb hA0.lt
  have hA2 := hA1.alloc (.cells (cl d) 23)
  have hB2 := hB1.alloc hB1.size (.cells (cl d) 23)
  have hD2 := Blk.new w1 23 d
  clear hb z0 hB1 hA1 hB0 hA0 x0 x1 x2 x3 x4 x5 x6 x7
  have x0 := hA2.cells 0 (by decide)
  have x1 := hA2.cells 1 (by decide)
  have x2 := hA2.cells 2 (by decide)
  have x3 := hA2.cells 3 (by decide)
  have x4 := hA2.cells 4 (by decide)
  have x5 := hA2.cells 5 (by decide)
  have x6 := hA2.cells 6 (by decide)
  have x7 := hA2.cells 7 (by decide)
  go_wp2_with fail
  change Calls _ _ _ (w1.alloc (.cells (cl d) 23)) _
  obtain ⟨s1, hs1⟩ : ∃ s, w1.heap.size = s := ⟨_, rfl⟩
  rw [hs1] at hD2 ⊢
  clear hs1 x0 x1 x2 x3 x4 x5 x6 x7
  generalize w1.alloc (.cells (cl d) 23) = W2 at *
  have z2 := hB2.size
  refine (cr _).mono ?_
  rintro e w3 ⟨rfl, hb⟩
  have hB3 : Below w.heap.size w w3 := hB2.trans (hb.mono z2)
  have hD3 := (hD2.below hb hD2.lt).alloc (.cells (cl d) 23)
  have hB4 := hB3.alloc hB3.size (.cells (cl d) 23)
  have hE4 := Blk.new w3 23 d
  clear hb z2 hB3 hA2 hD2 hB2
  have x0 := hD3.cells 0 (by decide)
  have x1 := hD3.cells 1 (by decide)
  have x2 := hD3.cells 2 (by decide)
  have x3 := hD3.cells 3 (by decide)
  have x4 := hD3.cells 4 (by decide)
  have x5 := hD3.cells 5 (by decide)
  have x6 := hD3.cells 6 (by decide)
  have x7 := hD3.cells 7 (by decide)
  have y0 := hE4.cells 0 (by decide)
  have y1 := hE4.cells 1 (by decide)
  have y2 := hE4.cells 2 (by decide)
  have y3 := hE4.cells 3 (by decide)
  have y4 := hE4.cells 4 (by decide)
  have y5 := hE4.cells 5 (by decide)
  have y6 := hE4.cells 6 (by decide)
  have y7 := hE4.cells 7 (by decide)
  go_wp2_with (go_at_call 14; refine (num_any _ _).mono ?_; rintro e w' ⟨rfl, rfl⟩)
  refine (works_any _ (ht.below hB4 h0) (by have := hB4.size; omega)).mono ?_
  rintro e w5 ⟨rfl, hb⟩
  have hB5 : Below w.heap.size w w5 := hB4.trans (hb.mono hB4.size)
  go_wp2
  go_ret
  exact ⟨rfl, hB5⟩
end Go.Proofs.YtnalpladieoegaaDoor
