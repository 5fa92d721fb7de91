/- Whether a clock is within another one, before it, apart from it: what the program's functions return. No condition. -/
import Derived.Test.YtnalpladieoegaaDoorMay
import Derived.Test.YtnalpladieoegaaDoorRound
namespace Go.Proofs.YtnalpladieoegaaDoor
open Go.RowKit Go.Shelf
attribute [local go_sem] Oper.semAt_some

set_option maxHeartbeats 400000 in
theorem step70_in (F : Fence) (n : Nat) (h70 : F.fn 70) (hro : F.round = none) (so : Bool) (t x y : Int) (w : World) :
    CallsIn F n Tryd.prog 70 #[.bool so, .int .i64 t, .int .i64 x, .int .i64 y] w fun e w' => e = .returned (.bool (so && decide (x ≤ y))) ∧ w = w' := by
  cases so
  · refine callsIn_of_wp Tryd.func70 rfl h70 ?_ hro
    simp only [Tryd.ntmps70, List.size_toArray, List.length_cons, List.length_nil, Nat.reduceAdd, Nat.reduceSub, Array.replicate_succ, Array.replicate_zero, List.push_toArray, List.append_toArray, List.nil_append, List.cons_append]
    gi_wp2
    go_ret
    exact ⟨rfl, rfl⟩
  · refine callsIn_of_wp Tryd.func70 rfl h70 ?_ hro
    simp only [Tryd.ntmps70, List.size_toArray, List.length_cons, List.length_nil, Nat.reduceAdd, Nat.reduceSub, Array.replicate_succ, Array.replicate_zero, List.push_toArray, List.append_toArray, List.nil_append, List.cons_append]
    gi_wp2
    go_ret
    exact ⟨by simp, rfl⟩

theorem step70_any (so : Bool) (t x y : Int) (w : World) : Calls Tryd.prog 70 #[.bool so, .int .i64 t, .int .i64 x, .int .i64 y] w fun e w' => e = .returned (.bool (so && decide (x ≤ y))) ∧ w = w' :=
  (callsIn_wide (n := 9)).1 (step70_in Fence.wide 9 trivial rfl so t x y w)

/-- What the fold has come to when pre has come. -/
def wiP (a b : Ck) (pre : List (Fin 8)) : Bool := pre.all fun i => decide (a i.val ≤ b i.val)
theorem wiP_snoc (a b : Ck) (pre : List (Fin 8)) (x : Fin 8) : wiP a b (pre ++ [x]) = (wiP a b pre && decide (a x.val ≤ b x.val)) := by simp [wiP]
theorem wiP_all (a b : Ck) : wiP a b (List.finRange 8) = wiB a b := rfl

set_option maxRecDepth 100000 in
set_option maxHeartbeats 4000000 in
theorem foldB_in (n : Nat) (hn : 3 ≤ n) (a b : Ck) (w : World) :
    CallsIn Fence.wide n Tryd.prog 69 #[.agg (cl a), .agg (cl b), .bool true, .func (.func 70) #[] #[]] w fun e W' => e = .returned (.bool (wiB a b)) ∧ Below w.heap.size w W' := by
  have h1 : 1 ≤ n := by omega
  have hro : Fence.wide.round = none := rfl
  have h69 : Fence.wide.fn 69 := trivial
  have h70 : Fence.wide.fn 70 := trivial
  have h44 : Fence.wide.fn 44 := trivial
  have h62 : Fence.wide.fn 62 := trivial
  have hd : 1 ≤ n - 1 - 1 := by omega
  have hmx : Tryd.prog.follows .mixedOrders = true := by kernel_rfl
  refine callsIn_of_wp_marks Tryd.func69 rfl h69 ?_ hro
  simp only [Tryd.ntmps69, List.size_toArray, List.length_cons, List.length_nil, Nat.reduceAdd, Nat.reduceSub, Array.replicate_succ, Array.replicate_zero, List.push_toArray, List.append_toArray, List.nil_append, List.cons_append]
  gi_wp2_with (gi_at_call 44; refine (parts_in Fence.wide (n - 1) h44 hro _ _).mono ?_; rintro e w' ⟨rfl, rfl⟩)
  have s0 : w.heap.size = w.heap.size := rfl
  obtain ⟨W0, hW0⟩ : ∃ W0, ((((w.alloc (.cells (cl a) 68)).alloc (.cells (cl b) 68)).alloc (.cells #[.bool true] 4)).alloc (.cells #[.func (.func 70) #[] #[]] 109)).alloc (.cells (cl a) 68) = W0 := ⟨_, rfl⟩
  have hsz : W0.heap.size = w.heap.size + 5 := by rw [← hW0]; simp
  have hb : Blk W0 (w.heap.size + 1) 68 b := by
    have := (((Blk.new (w.alloc (.cells (cl a) 68)) 68 b).alloc (.cells #[.bool true] 4)).alloc (.cells #[.func (.func 70) #[] #[]] 109)).alloc (.cells (cl a) 68)
    rw [hW0] at this; simpa only [World.size_alloc] using this
  have hso : Boxed W0 (w.heap.size + 1 + 1) 4 (.bool true) := by
    have := ((Boxed.new ((w.alloc (.cells (cl a) 68)).alloc (.cells (cl b) 68)) 4 (.bool true)).alloc (.cells #[.func (.func 70) #[] #[]] 109)).alloc (.cells (cl a) 68)
    rw [hW0] at this; simpa only [World.size_alloc] using this
  have hfn : Boxed W0 (w.heap.size + 1 + 1 + 1) 109 (.func (.func 70) #[] #[]) := by
    have := (Boxed.new (((w.alloc (.cells (cl a) 68)).alloc (.cells (cl b) 68)).alloc (.cells #[.bool true] 4)) 109 (.func (.func 70) #[] #[])).alloc (.cells (cl a) 68)
    rw [hW0] at this; simpa only [World.size_alloc] using this
  have hblk : Blk W0 (w.heap.size + 1 + 1 + 1 + 1) 68 a := by
    have := Blk.new ((((w.alloc (.cells (cl a) 68)).alloc (.cells (cl b) 68)).alloc (.cells #[.bool true] 4)).alloc (.cells #[.func (.func 70) #[] #[]] 109)) 68 a
    rw [hW0] at this; simpa only [World.size_alloc] using this
  have hB0 : Below w.heap.size w W0 := by
    rw [← hW0]
    exact (((((Below.refl _ w).alloc (Nat.le_refl _) _).alloc (by simp) _).alloc (by simp; omega) _).alloc (by simp; omega) _).alloc (by simp; omega) _
  rw [hW0]
  clear hW0 s0
  refine wpIn_rangeFunc_ownF hro h1 (gf := 62) (lb := #[.pointer (some ⟨w.heap.size + 1 + 1 + 1 + 1, 0, none⟩)]) rfl h62 (enters_of Tryd.func62 (by kernel_rfl) rfl)
    (parts_stops Fence.wide (n - 1) h62 hro (by omega) (w.heap.size + 1 + 1 + 1 + 1) 68 a _ hblk) (fun _ _ => trivial) (fun _ _ _ _ _ _ _ _ => trivial) (Below.refl _ _) (fun _ => rfl)
    (fun pre W => (Boxed W (w.heap.size + 1 + 1) 4 (.bool (wiP a b pre)) ∧ Boxed W (w.heap.size + 1 + 1 + 1) 109 (.func (.func 70) #[] #[]) ∧ Blk W (w.heap.size + 1) 68 b) ∧ Below w.heap.size w W)
    (fun _ _ _ => False)
    (OwnFrom.and (Own.from (fun s A B row hs hg hr => ⟨boxed_own (β := Unit) _ 4 (fun _ => .bool (wiP a b s)) () A B row hs.1 hg hr, boxed_own (β := Unit) _ 109 (fun _ => .func (.func 70) #[] #[]) () A B row hs.2.1 hg hr,
      hs.2.2.kept hg (fun e' => by obtain ⟨o, ho, hc⟩ := hr _ e'.symm; rw [show A.heap[w.heap.size + 1]? = _ from hs.2.2] at ho; cases ho; cases hc)⟩) _) (ownFrom_below (Nat.le_refl _) (by omega)))
    (fun _ _ _ _ _ hs _ _ => hs)
    ⟨⟨hso, hfn, hb⟩, hB0⟩
    (fun x => { tmps := #[.agg (cl a), .agg (cl b), .bool true, .func (.func 70) #[] #[], .pointer (some ⟨w.heap.size, 0, none⟩), .pointer (some ⟨w.heap.size + 1, 0, none⟩), .pointer (some ⟨w.heap.size + 1 + 1, 0, none⟩), .pointer (some ⟨w.heap.size + 1 + 1 + 1, 0, none⟩), .bool false, .int .i64 (x.val : Int), .int .i64 (a x.val), .agg (cl a), .func (.func 62) #[] #[.pointer (some ⟨w.heap.size + 1 + 1 + 1 + 1, 0, none⟩)], .int .i64 (x.val : Int), .int .i64 (a x.val), undef, undef, undef, undef, undef, undef, undef, undef, undef], defers := [] }) ?assign ?body ?done ?stop
  case assign =>
    intro l x W K hK
    gi_wp2
    exact hK
  case body =>
    rintro l pre x W ⟨⟨hso, hfn, hb⟩, hB⟩ _
    have q1 := hso.cell
    have q2 := hso.frozen
    have q3 := hfn.cell
    have q4 := hb.cell x.isLt
    have p0 : (0 : Int) ≤ (x.val : Int) := by omega
    have p1 : (x.val : Int) < 8 := by have := x.isLt; omega
    gi_wp2
    refine wpIn_region_round [8] (fun W1 => W1.cell? ⟨w.heap.size + 1 + 1, 0, none⟩ = some (.bool (wiP a b pre)) ∧ W1.frozen? ⟨w.heap.size + 1 + 1, 0, none⟩ = false ∧ W1.cell? ⟨w.heap.size + 1 + 1 + 1, 0, none⟩ = some (.func (.func 70) #[] #[]) ∧ W1.cell? ⟨w.heap.size + 1, x.val, none⟩ = some (.int .i64 (b x.val))) hmx (by kernel_rfl) (fun h => by obtain ⟨_, _, h⟩ := h; exact h) ?_
    refine wpX_take 0 (v := ?v0) rfl (by kernel_rfl) (by kernel_rfl) (by kernel_rfl) (by kernel_rfl) (fun _ _ _ h => h) ⟨q1, q2, q3, q4⟩ (Or.inl ⟨by rfl, ?h0⟩) ?_
    case h0 => (intro W1 hS1; obtain ⟨s1, s2, s3, s4⟩ := hS1; go_simp; with_reducible rfl)
    refine wpX_take 1 (v := ?v1) rfl (by kernel_rfl) (by kernel_rfl) (by kernel_rfl) (by kernel_rfl) (fun _ _ _ h => h) ⟨q1, q2, q3, q4⟩ (Or.inl ⟨by rfl, ?h1⟩) ?_
    case h1 => (intro W1 hS1; obtain ⟨s1, s2, s3, s4⟩ := hS1; go_simp; with_reducible rfl)
    refine wpX_take 2 (v := ?v2) rfl (by kernel_rfl) (by kernel_rfl) (by kernel_rfl) (by kernel_rfl) (fun _ _ _ h => h) ⟨q1, q2, q3, q4⟩ (Or.inl ⟨by rfl, ?h2⟩) ?_
    case h2 => (intro W1 hS1; obtain ⟨s1, s2, s3, s4⟩ := hS1; go_simp; with_reducible rfl)
    refine wpX_take 3 (v := ?v3) rfl (by kernel_rfl) (by kernel_rfl) (by kernel_rfl) (by kernel_rfl) (fun _ _ _ h => h) ⟨q1, q2, q3, q4⟩ (Or.inl ⟨by rfl, ?h3⟩) ?_
    case h3 => (intro W1 hS1; obtain ⟨s1, s2, s3, s4⟩ := hS1; go_simp; with_reducible rfl)
    refine wpX_take 4 (v := ?v4) rfl (by kernel_rfl) (by kernel_rfl) (by kernel_rfl) (by kernel_rfl) (fun _ _ _ h => h) ⟨q1, q2, q3, q4⟩ (Or.inl ⟨by rfl, ?h4⟩) ?_
    case h4 => (intro W1 hS1; obtain ⟨s1, s2, s3, s4⟩ := hS1; go_simp; with_reducible rfl)
    refine wpX_take 5 (v := ?v5) rfl (by kernel_rfl) (by kernel_rfl) (by kernel_rfl) (by kernel_rfl) (fun _ _ _ h => h) ⟨q1, q2, q3, q4⟩ (Or.inl ⟨by rfl, ?h5⟩) ?_
    case h5 => (intro W1 hS1; obtain ⟨s1, s2, s3, s4⟩ := hS1; go_simp; with_reducible rfl)
    refine wpX_take 6 (v := ?v6) rfl (by kernel_rfl) (by kernel_rfl) (by kernel_rfl) (by kernel_rfl) (fun _ _ _ h => h) ⟨q1, q2, q3, q4⟩ (Or.inl ⟨by rfl, ?h6⟩) ?_
    case h6 => (intro W1 hS1; obtain ⟨s1, s2, s3, s4⟩ := hS1; go_simp; with_reducible rfl)
    refine wpX_one 7 (by kernel_rfl) rfl (fun K hK => ?_)
    go_simp
    refine (step70_any _ _ _ _ _).mono ?_
    rintro e w' ⟨rfl, rfl⟩
    refine hK _ _ (fun _ => ⟨q1, q2, q3, q4⟩) ?_
    clear hK K
    refine wpX_one 8 (by kernel_rfl) rfl (fun K hK => ?_)
    go_simp
    refine hK _ _ (fun h => by cases h) ?_
    clear hK K
    refine wpX_done (by kernel_rfl) ?_ _
    gi_wp2
    exact ⟨(KeepsOthers.setCell _ _ _).trans (KeepsOthers.drew _), trivial, ⟨by rw [wiP_snoc]; exact hso.set _, hfn.other (by omega) _, hb.other (by omega) _ _⟩, (hB.setCell (p := ⟨w.heap.size + 1 + 1, 0, none⟩) (by simp; omega) _).drew⟩
  case done =>
    rintro D ys W hD rfl ⟨⟨hso, _, _⟩, hB⟩ hK
    have q1 := hso.cell
    gi_wp2
    refine ⟨by simp, .inl ⟨_, _, rfl, run_takeDeferred hK, ?_⟩⟩
    exact ⟨_, results_tmp rfl _ _ _, rfl, hB.trans (belowK_b (w := w) (Nat.le_refl _) W D _ _ (by omega) hK rfl rfl)⟩
  case stop =>
    rintro D c pre W _ _ h _
    exact h.elim

theorem foldB_any (a b : Ck) (w : World) : Calls Tryd.prog 69 #[.agg (cl a), .agg (cl b), .bool true, .func (.func 70) #[] #[]] w fun e w' => e = .returned (.bool (wiB a b)) ∧ Below w.heap.size w w' :=
  (callsIn_wide (n := 9)).1 (foldB_in 9 (by decide) a b w)

set_option maxHeartbeats 400000 in
theorem within_any (a b : Ck) (w : World) : Calls Tryd.prog 49 #[.agg (cl a), .agg (cl b)] w fun e w' => e = .returned (.bool (wiB a b)) ∧ Below w.heap.size w w' := by
  go_enter Tryd.func49, Tryd.ntmps49
  go_wp2_with (go_at_call 69; refine (foldB_any a b _).mono ?_; rintro e w' ⟨rfl, hb⟩)
  go_ret
  exact ⟨rfl, (((Below.refl _ w).alloc (Nat.le_refl _) _).alloc (by simp) _).trans (hb.mono (by simp; omega))⟩
end Go.Proofs.YtnalpladieoegaaDoor
