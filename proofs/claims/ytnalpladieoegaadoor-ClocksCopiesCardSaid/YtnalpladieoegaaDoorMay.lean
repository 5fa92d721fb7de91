/- May a clock be: what the program's question returns. No condition. -/
import Derived.Test.YtnalpladieoegaaDoorIter
namespace Go.Proofs.YtnalpladieoegaaDoor
open Go.RowKit Go.Shelf
attribute [local go_sem] Oper.semAt_some

theorem okC_list {c : Ck} {xs : List (Fin 8)} (hx : xs = List.finRange 8) (h : ∀ i ∈ xs, okI (c i.val) = true) : okC c = true := by
  subst hx
  exact okC_yes fun k hk => h ⟨k, hk⟩ (List.mem_finRange _)

set_option maxRecDepth 100000 in
set_option maxHeartbeats 2000000 in
theorem may_in (F : Fence) (n : Nat) (h42 : F.fn 42) (h44 : F.fn 44) (h62 : F.fn 62) (hro : F.round = none) (hn : 3 ≤ n) (c : Ck) (w : World) :
    CallsIn F n Tryd.prog 42 #[.agg (cl c)] w fun e W' => e = .returned (.bool (okC c)) ∧ Below w.heap.size w W' := by
  have h1 : 1 ≤ n := by omega
  refine callsIn_of_wp_marks Tryd.func42 rfl h42 ?_ hro
  simp only [Tryd.ntmps42, List.size_toArray, List.length_cons, List.length_nil, Nat.reduceAdd, Nat.reduceSub, Array.replicate_succ, Array.replicate_zero, List.push_toArray, List.append_toArray, List.nil_append, List.cons_append]
  gi_wp2_with (gi_at_call 44; refine (parts_in F (n - 1) h44 hro _ _).mono ?_; rintro e w' ⟨rfl, rfl⟩)
  have hres : Boxed (((w.alloc (.cells (cl c) 68)).alloc (.cells #[.bool false] 4)).alloc (.cells (cl c) 68)) (w.heap.size + 1) 4 (.bool false) := by
    have := Boxed.new (w.alloc (.cells (cl c) 68)) 4 (.bool false)
    rw [World.size_alloc] at this
    exact this.alloc _
  have hblk : Blk (((w.alloc (.cells (cl c) 68)).alloc (.cells #[.bool false] 4)).alloc (.cells (cl c) 68)) (w.heap.size + 1 + 1) 68 c := by
    have := Blk.new ((w.alloc (.cells (cl c) 68)).alloc (.cells #[.bool false] 4)) 68 c
    simpa only [World.size_alloc] using this
  have hB0 : Below w.heap.size w (((w.alloc (.cells (cl c) 68)).alloc (.cells #[.bool false] 4)).alloc (.cells (cl c) 68)) := (((Below.refl _ w).alloc (Nat.le_refl _) _).alloc (by simp) _).alloc (by simp; omega) _
  refine wpIn_rangeFunc_ownF hro h1 (gf := 62) (lb := #[.pointer (some ⟨w.heap.size + 1 + 1, 0, none⟩)]) rfl h62 (enters_of Tryd.func62 (by kernel_rfl) rfl)
    (parts_stops F (n - 1) h62 hro (by omega) (w.heap.size + 1 + 1) 68 c _ hblk) (fun _ _ => trivial) (fun _ _ _ _ _ _ _ _ => trivial) (Below.refl _ _) (fun _ => rfl)
    (fun pre W => ((∀ i ∈ pre, okI (c i.val) = true) ∧ Boxed W (w.heap.size + 1) 4 (.bool false)) ∧ Below w.heap.size w W)
    (fun d _ W => (d = .ret ∧ okC c = false ∧ Boxed W (w.heap.size + 1) 4 (.bool false)) ∧ Below w.heap.size w W)
    (OwnFrom.and (Own.from (fun s A B row hs hg hr => ⟨hs.1, boxed_own (β := Unit) (w.heap.size + 1) 4 (fun _ => .bool false) () A B row hs.2 hg hr⟩) _) (ownFrom_below (Nat.le_refl _) (by simp; omega)))
    (fun _ => OwnFrom.and (Own.from (fun s A B row hs hg hr => ⟨hs.1, hs.2.1, boxed_own (β := Unit) (w.heap.size + 1) 4 (fun _ => .bool false) () A B row hs.2.2 hg hr⟩) _) (ownFrom_below (Nat.le_refl _) (by simp; omega)))
    ⟨⟨by simp, hres⟩, hB0⟩
    (fun x => { tmps := #[.agg (cl c), .pointer (some ⟨w.heap.size, 0, none⟩), .pointer (some ⟨w.heap.size + 1, 0, none⟩), undef, .int .i64 (c x.val), .agg (cl c), .func (.func 62) #[] #[.pointer (some ⟨w.heap.size + 1 + 1, 0, none⟩)], .int .i64 (x.val : Int), .int .i64 (c x.val), undef, undef, undef, undef, undef, undef], defers := [] }) ?assign ?body ?done ?stop
  case assign =>
    intro l x W K hK
    gi_wp2
    exact hK
  case body =>
    rintro l pre x W ⟨⟨hp, hbx⟩, hB⟩ _
    have hcc := hbx.cell
    have hcf := hbx.frozen
    by_cases h0 : c x.val < 0
    · have HF : Hid (okC c = false) := okC_no x.isLt (okI_neg h0)
      gi_wp2
      exact ⟨KeepsOthers.setCell _ _ _, ⟨rfl, HF.out, hbx.set _⟩, hB.setCell (p := ⟨w.heap.size + 1, 0, none⟩) (by simp) _⟩
    · by_cases h1 : 4611686018427387904 < c x.val
      · have HF : Hid (okC c = false) := okC_no x.isLt (okI_big h1)
        gi_wp2
        exact ⟨KeepsOthers.setCell _ _ _, ⟨rfl, HF.out, hbx.set _⟩, hB.setCell (p := ⟨w.heap.size + 1, 0, none⟩) (by simp) _⟩
      · have HP : Hid (∀ i ∈ pre ++ [x], okI (c i.val) = true) := fun i hi => by
          rcases List.mem_append.1 hi with h | h
          · exact hp i h
          · simp at h; subst h; exact okI_yes h0 h1
        clear hp
        gi_wp2
        exact ⟨KeepsOthers.refl _, trivial, ⟨HP.out, hbx⟩, hB⟩
  case done =>
    rintro D ys W hD hys ⟨⟨hp, hbx⟩, hB⟩ hK
    have HF : Hid (okC c = true) := okC_list hys hp
    clear hp hys
    have hcc := hbx.cell
    have hcf := hbx.frozen
    gi_wp2
    have hK' := (KeepsOthers.setCell W ⟨w.heap.size + 1, 0, none⟩ (.bool true)).same D _ hK rfl
    refine ⟨by simp, .inl ⟨_, _, rfl, run_takeDeferred hK', ?_⟩⟩
    have hc5 := cell_kept (hbx.set (.bool true)).cell (grownBy_putObj' _ D (.deferred none)) (fun r e => by cases e; exact ⟨_, hK', rfl⟩)
    refine ⟨.bool true, ?_, ret_bool HF.out.symm, (hB.setCell (p := ⟨w.heap.size + 1, 0, none⟩) (by simp) _).trans (belowK_b (w := w) (Nat.le_refl _) _ D _ _ (by simp at hD; omega) hK' rfl rfl)⟩
    simp [results, Tryd.f42, go_sem, hc5]
  case stop =>
    rintro D d pre W hD _ ⟨⟨rfl, hF, hbx⟩, hB⟩ hK
    gi_wp2
    refine ⟨by simp, .inl ⟨_, _, rfl, run_takeDeferred hK, ?_⟩⟩
    have hc5 := cell_kept hbx.cell (grownBy_putObj' _ D (.deferred none)) (fun r e => by cases e; exact ⟨_, hK, rfl⟩)
    refine ⟨.bool false, ?_, ret_bool hF.symm, hB.trans (belowK_b (w := w) (Nat.le_refl _) W D _ _ (by simp at hD; omega) hK rfl rfl)⟩
    simp [results, Tryd.f42, go_sem, hc5]

theorem may_any (c : Ck) (w : World) : Calls Tryd.prog 42 #[.agg (cl c)] w fun e w' => e = .returned (.bool (okC c)) ∧ Below w.heap.size w w' :=
  (callsIn_wide (n := 9)).1 (may_in Fence.wide 9 trivial trivial trivial rfl (by decide) c w)
end Go.Proofs.YtnalpladieoegaaDoor
