/- The fold of two clocks to their join, by the program. No condition. -/
import Derived.Test.YtnalpladieoegaaDoorFoldC
import Derived.Test.YtnalpladieoegaaDoorEnds
namespace Go.Proofs.YtnalpladieoegaaDoor
open Go.RowKit Go.Shelf
attribute [local go_sem] Oper.semAt_some

/-- A block that holds a clock abides the turn of a block that holds no cells. -/
theorem blk_own {A B : World} {b : Nat} {t : TypeId} {c : Ck} {row : Option Nat} (h : Blk A b t c) (hg : A.grownBy B row) (hr : ∀ r, row = some r → ∃ o : Obj, A.heap[r]? = some o ∧ o.isCells = false) : Blk B b t c :=
  h.kept hg (fun e' => by obtain ⟨o, ho, hc⟩ := hr _ e'.symm; rw [show A.heap[b]? = _ from h] at ho; cases ho; cases hc)

/-- What the fold has come to when pre has come. -/
def jnP (a b : Ck) (pre : List (Fin 8)) : Ck := fun i => if pre.any (fun j => j.val == i) then max (a i) (b i) else 0
theorem jnP_snoc (a b : Ck) (pre : List (Fin 8)) (x : Fin 8) : jnP a b (pre ++ [x]) = upd (jnP a b pre) x.val (max (a x.val) (b x.val)) := by
  funext i
  unfold jnP upd
  by_cases h : i = x.val
  · subst h; simp
  · have hne : (x.val == i) = false := by simp; exact fun e => h e.symm
    simp only [List.any_append, List.any_cons, List.any_nil, hne, Bool.or_false, h, if_false]
theorem jnP_nil (a b : Ck) : jnP a b [] = z0 := rfl
theorem jnP_all (a b : Ck) : cl (jnP a b (List.finRange 8)) = cl (jn a b) := rfl

set_option maxRecDepth 100000 in
set_option maxHeartbeats 4000000 in
theorem foldC_in (n : Nat) (hn : 3 ≤ n) (a b : Ck) (w : World) :
    CallsIn Fence.wide n Tryd.prog 67 #[.agg (cl a), .agg (cl b), .agg (cl z0), .func (.func 68) #[] #[]] w fun e W' => e = .returned (.agg (cl (jn a b))) ∧ Below w.heap.size w W' := by
  have h1 : 1 ≤ n := by omega
  have hro : Fence.wide.round = none := rfl
  have h67 : Fence.wide.fn 67 := trivial
  have h68 : Fence.wide.fn 68 := trivial
  have h44 : Fence.wide.fn 44 := trivial
  have h62 : Fence.wide.fn 62 := trivial
  have hd : 1 ≤ n - 1 - 1 := by omega
  have hmx : Tryd.prog.follows .mixedOrders = true := by kernel_rfl
  refine callsIn_of_wp_marks Tryd.func67 rfl h67 ?_ hro
  simp only [Tryd.ntmps67, List.size_toArray, List.length_cons, List.length_nil, Nat.reduceAdd, Nat.reduceSub, Array.replicate_succ, Array.replicate_zero, List.push_toArray, List.append_toArray, List.nil_append, List.cons_append]
  gi_wp2_with (gi_at_call 44; refine (parts_in Fence.wide (n - 1) h44 hro _ _).mono ?_; rintro e w' ⟨rfl, rfl⟩)
  have s0 : w.heap.size = w.heap.size := rfl
  obtain ⟨W0, hW0⟩ : ∃ W0, (((((w.alloc (.cells (cl a) 68)).alloc (.cells (cl b) 68)).alloc (.cells (cl z0) 68)).alloc (.cells #[.func (.func 68) #[] #[]] 107)).alloc (.cells (cl z0) 68)).alloc (.cells (cl a) 68) = W0 := ⟨_, rfl⟩
  have hsz : W0.heap.size = w.heap.size + 6 := by rw [← hW0]; simp
  have hb : Blk W0 (w.heap.size + 1) 68 b := by
    have := ((((Blk.new (w.alloc (.cells (cl a) 68)) 68 b).alloc (.cells (cl z0) 68)).alloc (.cells #[.func (.func 68) #[] #[]] 107)).alloc (.cells (cl z0) 68)).alloc (.cells (cl a) 68)
    rw [hW0] at this; simpa only [World.size_alloc] using this
  have hso : Blk W0 (w.heap.size + 1 + 1) 68 z0 := by
    have := (((Blk.new ((w.alloc (.cells (cl a) 68)).alloc (.cells (cl b) 68)) 68 z0).alloc (.cells #[.func (.func 68) #[] #[]] 107)).alloc (.cells (cl z0) 68)).alloc (.cells (cl a) 68)
    rw [hW0] at this; simpa only [World.size_alloc] using this
  have hfn : Boxed W0 (w.heap.size + 1 + 1 + 1) 107 (.func (.func 68) #[] #[]) := by
    have := ((Boxed.new (((w.alloc (.cells (cl a) 68)).alloc (.cells (cl b) 68)).alloc (.cells (cl z0) 68)) 107 (.func (.func 68) #[] #[])).alloc (.cells (cl z0) 68)).alloc (.cells (cl a) 68)
    rw [hW0] at this; simpa only [World.size_alloc] using this
  have hres : Blk W0 (w.heap.size + 1 + 1 + 1 + 1) 68 z0 := by
    have := (Blk.new ((((w.alloc (.cells (cl a) 68)).alloc (.cells (cl b) 68)).alloc (.cells (cl z0) 68)).alloc (.cells #[.func (.func 68) #[] #[]] 107)) 68 z0).alloc (.cells (cl a) 68)
    rw [hW0] at this; simpa only [World.size_alloc] using this
  have hblk : Blk W0 (w.heap.size + 1 + 1 + 1 + 1 + 1) 68 a := by
    have := Blk.new (((((w.alloc (.cells (cl a) 68)).alloc (.cells (cl b) 68)).alloc (.cells (cl z0) 68)).alloc (.cells #[.func (.func 68) #[] #[]] 107)).alloc (.cells (cl z0) 68)) 68 a
    rw [hW0] at this; simpa only [World.size_alloc] using this
  have hB0 : Below w.heap.size w W0 := by
    rw [← hW0]
    exact ((((((Below.refl _ w).alloc (Nat.le_refl _) _).alloc (by simp) _).alloc (by simp; omega) _).alloc (by simp; omega) _).alloc (by simp; omega) _).alloc (by simp; omega) _
  change Code.wpIn _ _ _ _ _ _ ((((((w.alloc (.cells (cl a) 68)).alloc (.cells (cl b) 68)).alloc (.cells (cl z0) 68)).alloc (.cells #[.func (.func 68) #[] #[]] 107)).alloc (.cells (cl z0) 68)).alloc (.cells (cl a) 68))
  rw [hW0]
  clear hW0 s0
  refine wpIn_rangeFunc_ownF hro h1 (gf := 62) (lb := #[.pointer (some ⟨w.heap.size + 1 + 1 + 1 + 1 + 1, 0, none⟩)]) rfl h62 (enters_of Tryd.func62 (by kernel_rfl) rfl)
    (parts_stops Fence.wide (n - 1) h62 hro (by omega) (w.heap.size + 1 + 1 + 1 + 1 + 1) 68 a _ hblk) (fun _ _ => trivial) (fun _ _ _ _ _ _ _ _ => trivial) (Below.refl _ _) (fun _ => rfl)
    (fun pre W => (Blk W (w.heap.size + 1 + 1) 68 (jnP a b pre) ∧ Boxed W (w.heap.size + 1 + 1 + 1) 107 (.func (.func 68) #[] #[]) ∧ Blk W (w.heap.size + 1) 68 b ∧ Blk W (w.heap.size + 1 + 1 + 1 + 1) 68 z0) ∧ Below w.heap.size w W)
    (fun _ _ _ => False)
    (OwnFrom.and (Own.from (fun s A B row hs hg hr => ⟨blk_own hs.1 hg hr, boxed_own (β := Unit) _ 107 (fun _ => .func (.func 68) #[] #[]) () A B row hs.2.1 hg hr,
      blk_own hs.2.2.1 hg hr, blk_own hs.2.2.2 hg hr⟩) _) (ownFrom_below (Nat.le_refl _) (by omega)))
    (fun _ _ _ _ _ hs _ _ => hs)
    ⟨⟨hso, hfn, hb, hres⟩, hB0⟩
    (fun x => { tmps := #[.agg (cl a), .agg (cl b), .agg (cl z0), .func (.func 68) #[] #[], .pointer (some ⟨w.heap.size, 0, none⟩), .pointer (some ⟨w.heap.size + 1, 0, none⟩), .pointer (some ⟨w.heap.size + 1 + 1, 0, none⟩), .pointer (some ⟨w.heap.size + 1 + 1 + 1, 0, none⟩), .pointer (some ⟨w.heap.size + 1 + 1 + 1 + 1, 0, none⟩), .int .i64 (x.val : Int), .int .i64 (a x.val), .agg (cl a), .func (.func 62) #[] #[.pointer (some ⟨w.heap.size + 1 + 1 + 1 + 1 + 1, 0, none⟩)], .int .i64 (x.val : Int), .int .i64 (a x.val), undef, undef, undef, undef, undef, undef, undef, undef, undef], defers := [] }) ?assign ?body ?done ?stop
  case assign =>
    intro l x W K hK
    gi_wp2
    exact hK
  case body =>
    rintro l pre x W ⟨⟨hso, hfn, hb, hres⟩, hB⟩ _
    have p0 : (0 : Int) ≤ (x.val : Int) := by omega
    have p1 : (x.val : Int) < 8 := by have := x.isLt; omega
    gi_wp2
    refine wpIn_region_round [8] (fun W1 => Blk W1 (w.heap.size + 1 + 1) 68 (jnP a b pre) ∧ Boxed W1 (w.heap.size + 1 + 1 + 1) 107 (.func (.func 68) #[] #[]) ∧ Blk W1 (w.heap.size + 1) 68 b) hmx (by kernel_rfl) (fun h => by obtain ⟨_, _, h⟩ := h; exact h) ?_
    refine wpX_take 0 (v := ?v0) rfl (by kernel_rfl) (by kernel_rfl) (by kernel_rfl) (by kernel_rfl) (fun _ _ _ h => h) ⟨hso, hfn, hb⟩ (Or.inl ⟨by rfl, ?h0⟩) ?_
    case h0 =>
      intro W1 hS1
      obtain ⟨f1, f2, f3⟩ := hS1
      have s1 := f2.cell
      go_simp
      with_reducible rfl
    refine wpX_take 1 (v := ?v1) rfl (by kernel_rfl) (by kernel_rfl) (by kernel_rfl) (by kernel_rfl) (fun _ _ _ h => h) ⟨hso, hfn, hb⟩ (Or.inl ⟨by rfl, ?h1⟩) ?_
    case h1 =>
      intro W1 hS1
      obtain ⟨f1, f2, f3⟩ := hS1
      skip
      have z0 := f1.cell (k := 0) (by decide)
      have z1 := f1.cell (k := 1) (by decide)
      have z2 := f1.cell (k := 2) (by decide)
      have z3 := f1.cell (k := 3) (by decide)
      have z4 := f1.cell (k := 4) (by decide)
      have z5 := f1.cell (k := 5) (by decide)
      have z6 := f1.cell (k := 6) (by decide)
      have z7 := f1.cell (k := 7) (by decide)
      go_simp
      with_reducible rfl
    refine wpX_take 2 (v := ?v2) rfl (by kernel_rfl) (by kernel_rfl) (by kernel_rfl) (by kernel_rfl) (fun _ _ _ h => h) ⟨hso, hfn, hb⟩ (Or.inl ⟨by rfl, ?h2⟩) ?_
    case h2 =>
      intro W1 hS1
      obtain ⟨f1, f2, f3⟩ := hS1
      skip
      go_simp
      with_reducible rfl
    refine wpX_take 3 (v := ?v3) rfl (by kernel_rfl) (by kernel_rfl) (by kernel_rfl) (by kernel_rfl) (fun _ _ _ h => h) ⟨hso, hfn, hb⟩ (Or.inl ⟨by rfl, ?h3⟩) ?_
    case h3 =>
      intro W1 hS1
      obtain ⟨f1, f2, f3⟩ := hS1
      skip
      go_simp
      with_reducible rfl
    refine wpX_take 4 (v := ?v4) rfl (by kernel_rfl) (by kernel_rfl) (by kernel_rfl) (by kernel_rfl) (fun _ _ _ h => h) ⟨hso, hfn, hb⟩ (Or.inl ⟨by rfl, ?h4⟩) ?_
    case h4 =>
      intro W1 hS1
      obtain ⟨f1, f2, f3⟩ := hS1
      skip
      go_simp
      with_reducible rfl
    refine wpX_take 5 (v := ?v5) rfl (by kernel_rfl) (by kernel_rfl) (by kernel_rfl) (by kernel_rfl) (fun _ _ _ h => h) ⟨hso, hfn, hb⟩ (Or.inl ⟨by rfl, ?h5⟩) ?_
    case h5 =>
      intro W1 hS1
      obtain ⟨f1, f2, f3⟩ := hS1
      skip
      go_simp
      with_reducible rfl
    refine wpX_take 6 (v := ?v6) rfl (by kernel_rfl) (by kernel_rfl) (by kernel_rfl) (by kernel_rfl) (fun _ _ _ h => h) ⟨hso, hfn, hb⟩ (Or.inl ⟨by rfl, ?h6⟩) ?_
    case h6 =>
      intro W1 hS1
      obtain ⟨f1, f2, f3⟩ := hS1
      have s1 := f3.cell x.isLt
      go_simp
      with_reducible rfl
    refine wpX_one 7 (by kernel_rfl) rfl (fun K hK => ?_)
    go_simp
    refine (step68_any _ x.val x.isLt _ _ _).mono ?_
    rintro e w' ⟨rfl, hbw⟩
    have l1 := hso.lt
    have l2 := hfn.lt
    have l3 := hb.lt
    have l4 := hres.lt
    have hso' : Blk w' (w.heap.size + 1 + 1) 68 (jnP a b pre) := hso.drew.below hbw l1
    have hfn' : Boxed w' (w.heap.size + 1 + 1 + 1) 107 (.func (.func 68) #[] #[]) := (hbw.block _ l2).trans hfn
    have hb' : Blk w' (w.heap.size + 1) 68 b := hb.drew.below hbw l3
    have hres' : Blk w' (w.heap.size + 1 + 1 + 1 + 1) 68 z0 := hres.drew.below hbw l4
    refine hK _ _ (fun _ => ⟨hso', hfn', hb'⟩) ?_
    clear hK K
    refine wpX_one 8 (by kernel_rfl) rfl (fun K hK => ?_)
    have f1 := hso'
    have z0 := f1.cell (k := 0) (by decide)
    have z1 := f1.cell (k := 1) (by decide)
    have z2 := f1.cell (k := 2) (by decide)
    have z3 := f1.cell (k := 3) (by decide)
    have z4 := f1.cell (k := 4) (by decide)
    have z5 := f1.cell (k := 5) (by decide)
    have z6 := f1.cell (k := 6) (by decide)
    have z7 := f1.cell (k := 7) (by decide)
    have y0 := f1.frozen 0
    have y1 := f1.frozen 1
    have y2 := f1.frozen 2
    have y3 := f1.frozen 3
    have y4 := f1.frozen 4
    have y5 := f1.frozen 5
    have y6 := f1.frozen 6
    have y7 := f1.frozen 7
    go_simp
    refine hK _ _ (fun h => by cases h) ?_
    clear hK K
    refine wpX_done (by kernel_rfl) ?_ _
    gi_wp2
    have hg := st8b_grown w' (w.heap.size + 1 + 1) (upd (jnP a b pre) x.val (max (a x.val) (b x.val)))
    refine ⟨(KeepsOthers.drew W).trans ((keeps_of_below hbw).trans (keeps_st8b hso' _)), trivial, ⟨?_, hfn'.kept hg (nesome (by omega)), hb'.kept hg (nesome (by omega)), hres'.kept hg (nesome (by omega))⟩, ?_⟩
    · rw [jnP_snoc]
      exact hso'.set8 _
    · exact (hB.drew.trans (hbw.mono hB.size)).grown hg (by have := hbw.size; have := hB.size; simp at *; omega) (fun k e => by cases e; omega)
  case done =>
    rintro D ys W hD rfl ⟨⟨hso, _, _, hres⟩, hB⟩ hK
    have z0 := hso.cell (k := 0) (by decide)
    have y0 := hres.cell (k := 0) (by decide)
    have u0 := hres.frozen 0
    have z1 := hso.cell (k := 1) (by decide)
    have y1 := hres.cell (k := 1) (by decide)
    have u1 := hres.frozen 1
    have z2 := hso.cell (k := 2) (by decide)
    have y2 := hres.cell (k := 2) (by decide)
    have u2 := hres.frozen 2
    have z3 := hso.cell (k := 3) (by decide)
    have y3 := hres.cell (k := 3) (by decide)
    have u3 := hres.frozen 3
    have z4 := hso.cell (k := 4) (by decide)
    have y4 := hres.cell (k := 4) (by decide)
    have u4 := hres.frozen 4
    have z5 := hso.cell (k := 5) (by decide)
    have y5 := hres.cell (k := 5) (by decide)
    have u5 := hres.frozen 5
    have z6 := hso.cell (k := 6) (by decide)
    have y6 := hres.cell (k := 6) (by decide)
    have u6 := hres.frozen 6
    have z7 := hso.cell (k := 7) (by decide)
    have y7 := hres.cell (k := 7) (by decide)
    have u7 := hres.frozen 7
    gi_wp2
    have hg := st8b_grown W (w.heap.size + 1 + 1 + 1 + 1) (jnP a b (List.finRange 8))
    have hr' := hres.set8 (jnP a b (List.finRange 8))
    have hK' := (keeps_st8b hres (jnP a b (List.finRange 8))).same D _ hK rfl
    have hB' : Below w.heap.size w (st8b W (w.heap.size + 1 + 1 + 1 + 1) (jnP a b (List.finRange 8))) := hB.grown hg hB.size (fun k e => by cases e; omega)
    refine ⟨by simp, .inl ⟨_, _, rfl, run_takeDeferred hK', ?_⟩⟩
    have hr2 := blk_own hr' (grownBy_putObj' _ D (.deferred none)) (fun r e => by cases e; exact ⟨_, hK', rfl⟩)
    have hB2 := hB'.trans (belowK_b (w := w) (Nat.le_refl _) _ D _ (.deferred none) (by omega) hK' rfl rfl)
    refine ⟨.agg (cl (jn a b)), ?_, rfl, hB2⟩
    have e0 := hr2.cell (k := 0) (by decide)
    have e1 := hr2.cell (k := 1) (by decide)
    have e2 := hr2.cell (k := 2) (by decide)
    have e3 := hr2.cell (k := 3) (by decide)
    have e4 := hr2.cell (k := 4) (by decide)
    have e5 := hr2.cell (k := 5) (by decide)
    have e6 := hr2.cell (k := 6) (by decide)
    have e7 := hr2.cell (k := 7) (by decide)
    rw [← jnP_all a b]
    clear hr2 hB2 hr' hK' hB' hg
    generalize World.putObj _ D (.deferred none) = WW at e0 e1 e2 e3 e4 e5 e6 e7 ⊢
    simp [results, Tryd.results67, go_sem, e0, e1, e2, e3, e4, e5, e6, e7]
  case stop =>
    rintro D c pre W _ _ h _
    exact h.elim

theorem foldC_any (a b : Ck) (w : World) : Calls Tryd.prog 67 #[.agg (cl a), .agg (cl b), .agg (cl z0), .func (.func 68) #[] #[]] w fun e w' => e = .returned (.agg (cl (jn a b))) ∧ Below w.heap.size w w' :=
  (callsIn_wide (n := 9)).1 (foldC_in 9 (by decide) a b w)

set_option maxHeartbeats 400000 in
theorem join_any (a b : Ck) (w : World) : Calls Tryd.prog 47 #[.agg (cl a), .agg (cl b)] w fun e w' => e = .returned (.agg (cl (jn a b))) ∧ Below w.heap.size w w' := by
  have hB : Below w.heap.size w (((w.alloc (.cells (cl a) 68)).alloc (.cells (cl b) 68)).alloc (.cells (cl z0) 68)) := (((Below.refl _ w).alloc (Nat.le_refl _) _).alloc (by simp) _).alloc (by simp; omega) _
  have hr := Blk.new ((w.alloc (.cells (cl a) 68)).alloc (.cells (cl b) 68)) 68 z0
  rw [World.size_alloc, World.size_alloc] at hr
  go_enter Tryd.func47, Tryd.ntmps47
  go_wp2_with fail
  refine (foldC_any a b _).mono ?_
  rintro e w1 ⟨rfl, hb⟩
  have hr1 := hr.below hb (by simp)
  have e0 := hr1.cell (k := 0) (by decide)
  have e1 := hr1.cell (k := 1) (by decide)
  have e2 := hr1.cell (k := 2) (by decide)
  have e3 := hr1.cell (k := 3) (by decide)
  have e4 := hr1.cell (k := 4) (by decide)
  have e5 := hr1.cell (k := 5) (by decide)
  have e6 := hr1.cell (k := 6) (by decide)
  have e7 := hr1.cell (k := 7) (by decide)
  have f0 := hr1.frozen 0
  have f1 := hr1.frozen 1
  have f2 := hr1.frozen 2
  have f3 := hr1.frozen 3
  have f4 := hr1.frozen 4
  have f5 := hr1.frozen 5
  have f6 := hr1.frozen 6
  have f7 := hr1.frozen 7
  go_wp2
  exact end_c68 (hr1.set8 (jn a b)) rfl rfl rfl ⟨rfl, (hB.trans (hb.mono (by simp; omega))).grown (st8b_grown _ _ _) (by have := hb.size; simp at this; omega) (fun k e => by cases e; omega)⟩

set_option maxHeartbeats 400000 in
theorem Join_any (a b : Ck) (w : World) : Calls Tryd.prog 18 #[.agg (cl a), .agg (cl b)] w fun e w' => e = .returned (.agg (cl (jn a b))) ∧ Below w.heap.size w w' := by
  have hB : Below w.heap.size w (((w.alloc (.cells (cl a) 23)).alloc (.cells (cl b) 23)).alloc (.cells (cl z0) 23)) := (((Below.refl _ w).alloc (Nat.le_refl _) _).alloc (by simp) _).alloc (by simp; omega) _
  have hr := Blk.new ((w.alloc (.cells (cl a) 23)).alloc (.cells (cl b) 23)) 23 z0
  rw [World.size_alloc, World.size_alloc] at hr
  go_enter Tryd.func18, Tryd.ntmps18
  go_wp2_with fail
  refine (join_any a b _).mono ?_
  rintro e w1 ⟨rfl, hb⟩
  have hr1 := hr.below hb (by simp)
  have e0 := hr1.cell (k := 0) (by decide)
  have e1 := hr1.cell (k := 1) (by decide)
  have e2 := hr1.cell (k := 2) (by decide)
  have e3 := hr1.cell (k := 3) (by decide)
  have e4 := hr1.cell (k := 4) (by decide)
  have e5 := hr1.cell (k := 5) (by decide)
  have e6 := hr1.cell (k := 6) (by decide)
  have e7 := hr1.cell (k := 7) (by decide)
  have f0 := hr1.frozen 0
  have f1 := hr1.frozen 1
  have f2 := hr1.frozen 2
  have f3 := hr1.frozen 3
  have f4 := hr1.frozen 4
  have f5 := hr1.frozen 5
  have f6 := hr1.frozen 6
  have f7 := hr1.frozen 7
  go_wp2
  exact end_c23 (hr1.set8 (jn a b)) rfl rfl rfl ⟨rfl, (hB.trans (hb.mono (by simp; omega))).grown (st8b_grown _ _ _) (by have := hb.size; simp at this; omega) (fun k e => by cases e; omega)⟩
end Go.Proofs.YtnalpladieoegaaDoor
