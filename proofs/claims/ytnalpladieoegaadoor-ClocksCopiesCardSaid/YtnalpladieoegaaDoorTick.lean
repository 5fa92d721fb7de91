/- A clock with one part more: the program and the reference. No condition. -/
import Derived.Test.YtnalpladieoegaaDoorEnds
import Derived.Test.YtnalpladieoegaaDoorLeaf
import Derived.Test.YtnalpladieoegaaDoorMay
import Derived.Deep.Cut
namespace Go.Proofs.YtnalpladieoegaaDoor
open Go.RowKit Go.Shelf

/-- A clock with one part more, and the error's number. -/
def tk (c : Ck) (t : Int) : Ck × Int :=
  if okC c then (if t < 0 ∨ 8 ≤ t then (z0, 4) else if c t.toNat = most then (z0, 4) else (upd c t.toNat (c t.toNat + 1), 0)) else (z0, 2)
theorem tk_bad {c : Ck} {t : Int} (h : okC c = false) : tk c t = (z0, 2) := by unfold tk; rw [h]; rfl
theorem tk_low {c : Ck} {t : Int} (h : okC c = true) (h0 : t < 0) : tk c t = (z0, 4) := by unfold tk; rw [if_pos h, if_pos (.inl h0)]
theorem tk_high {c : Ck} {t : Int} (h : okC c = true) (h0 : 8 ≤ t) : tk c t = (z0, 4) := by unfold tk; rw [if_pos h, if_pos (.inr h0)]
theorem tk_most {c : Ck} {k : Nat} (h : okC c = true) (h0 : c k = 4611686018427387904) : tk c k = (z0, 4) := by
  unfold tk
  rw [if_pos h]
  split
  · rfl
  · rw [if_pos (by rw [Int.toNat_natCast]; exact h0)]
theorem tk_ok {c : Ck} {k : Nat} (h : okC c = true) (hk : k < 8) (h0 : ¬ c k = 4611686018427387904) : tk c k = (upd c k (c k + 1), 0) := by
  unfold tk
  rw [if_pos h, if_neg (by omega), if_neg (by rw [Int.toNat_natCast]; exact h0), Int.toNat_natCast]
theorem tk_ret {c d : Ck} {t n : Int} (h : tk c t = (d, n)) : Ending.returned (.tuple #[.agg (cl d), .int .i64 n]) = .returned (.tuple #[.agg (cl (tk c t).1), .int .i64 (tk c t).2]) := by rw [h]
theorem okC_at {c : Ck} (h : okC c = true) {k : Nat} (hk : k < 8) : okI (c k) = true := by
  simp only [okC, List.all_eq_true, List.mem_range] at h
  exact h k hk
theorem okI_lo {x : Int} (h : okI x = true) : 0 ≤ x := by
  unfold okI at h; simp at h; exact h.1
theorem okI_hi {x : Int} (h : okI x = true) : x ≤ 4611686018427387904 := by
  unfold okI most at h; simp at h; exact h.2

set_option maxHeartbeats 2000000 in
theorem Tick_any (c : Ck) (t : Int) (w : World) : Calls Tryd.prog 12 #[.agg (cl c), .int .i64 t] w fun e w' => e = .returned (.tuple #[.agg (cl (tk c t).1), .int .i64 (tk c t).2]) ∧ Below w.heap.size w w' := by
  have hA := (Blk.new w 23 c).alloc (.cells (cl z0) 23)
  have hr := Blk.new (w.alloc (.cells (cl c) 23)) 23 z0
  simp only [World.size_alloc] at hr
  have hB : Below w.heap.size w ((w.alloc (.cells (cl c) 23)).alloc (.cells (cl z0) 23)) := ((Below.refl _ w).alloc (Nat.le_refl _) _).alloc (by simp) _
  go_enter Tryd.func12, Tryd.ntmps12
  go_wp2_with fail
  refine (may_any c _).mono ?_
  rintro e w1 ⟨rfl, hb⟩
  have hA1 := hA.below hb (by simp; omega)
  have hr1 := hr.below hb (by simp)
  have hB1 : Below w.heap.size w w1 := hB.trans (hb.mono (by simp; omega))
  clear hA hr hb hB
  have y0 := hr1.cell (k := 0) (by decide)
  have g0 := hr1.frozen 0
  have y1 := hr1.cell (k := 1) (by decide)
  have g1 := hr1.frozen 1
  have y2 := hr1.cell (k := 2) (by decide)
  have g2 := hr1.frozen 2
  have y3 := hr1.cell (k := 3) (by decide)
  have g3 := hr1.frozen 3
  have y4 := hr1.cell (k := 4) (by decide)
  have g4 := hr1.frozen 4
  have y5 := hr1.cell (k := 5) (by decide)
  have g5 := hr1.frozen 5
  have y6 := hr1.cell (k := 6) (by decide)
  have g6 := hr1.frozen 6
  have y7 := hr1.cell (k := 7) (by decide)
  have g7 := hr1.frozen 7
  cases hok : okC c
  · have HT : Hid (tk c t = (z0, 2)) := tk_bad hok
    clear hok
    go_wp2
    refine end_c23t (c := z0) (v := .int .i64 2) (hr1.set8 z0) rfl rfl rfl rfl ?_
    exact ⟨tk_ret HT.out, hB1.grown (st8b_grown w1 (w.heap.size + 1) z0) hB1.size (fun k e => by cases e; omega)⟩
  · by_cases h0 : t < 0
    · have HT : Hid (tk c t = (z0, 4)) := tk_low hok h0
      clear hok
      go_wp2
      refine end_c23t (c := z0) (v := .int .i64 4) (hr1.set8 z0) rfl rfl rfl rfl ?_
      exact ⟨tk_ret HT.out, hB1.grown (st8b_grown w1 (w.heap.size + 1) z0) hB1.size (fun k e => by cases e; omega)⟩
    · by_cases h8 : 8 ≤ t
      · have HT : Hid (tk c t = (z0, 4)) := tk_high hok h8
        clear hok
        go_wp2
        refine end_c23t (c := z0) (v := .int .i64 4) (hr1.set8 z0) rfl rfl rfl rfl ?_
        exact ⟨tk_ret HT.out, hB1.grown (st8b_grown w1 (w.heap.size + 1) z0) hB1.size (fun k e => by cases e; omega)⟩
      · obtain ⟨k, rfl⟩ : ∃ k : Nat, t = (k : Int) := ⟨t.toNat, by omega⟩
        have hk : k < 8 := by omega
        have hck := hA1.cell hk
        have hfk := hA1.frozen k
        have hlo : 0 ≤ c k := okI_lo (okC_at hok hk)
        have hhi : c k ≤ 4611686018427387904 := okI_hi (okC_at hok hk)
        by_cases hm : c k = 4611686018427387904
        · have HT : Hid (tk c k = (z0, 4)) := tk_most hok hm
          have hm' : ((c k) == 4611686018427387904) = true := beq_iff_eq.2 hm
          clear hok hm
          go_wp2
          refine end_c23t (c := z0) (v := .int .i64 4) (hr1.set8 z0) rfl rfl rfl rfl ?_
          exact ⟨tk_ret HT.out, hB1.grown (st8b_grown w1 (w.heap.size + 1) z0) hB1.size (fun k e => by cases e; omega)⟩
        · have HT : Hid (tk c k = (upd c k (c k + 1), 0)) := tk_ok hok hk hm
          have hm' : ((c k) == 4611686018427387904) = false := beq_eq_false_iff_ne.2 hm
          have hlt : c k < 4611686018427387904 := by omega
          clear hok hm hhi
          go_upto_region 6 with (fail)
          have hA2 := hA1.set hk (c k + 1)
          have hr2 := hr1.other (b' := w.heap.size) (by omega) k (.int .i64 (c k + 1))
          have hB2 := hB1.setCell (p := ⟨w.heap.size, k, none⟩) (Nat.le_refl _) (.int .i64 (c k + 1))
          clear y0 g0 y1 g1 y2 g2 y3 g3 y4 g4 y5 g5 y6 g6 y7 g7 hck hfk hA1 hr1 hB1 hlo hlt hm'
          generalize w1.setCell ⟨w.heap.size, k, none⟩ (.int .i64 (c k + 1)) = W2 at *
          have x0 := hA2.cell (k := 0) (by decide)
          have y0 := hr2.cell (k := 0) (by decide)
          have g0 := hr2.frozen 0
          have x1 := hA2.cell (k := 1) (by decide)
          have y1 := hr2.cell (k := 1) (by decide)
          have g1 := hr2.frozen 1
          have x2 := hA2.cell (k := 2) (by decide)
          have y2 := hr2.cell (k := 2) (by decide)
          have g2 := hr2.frozen 2
          have x3 := hA2.cell (k := 3) (by decide)
          have y3 := hr2.cell (k := 3) (by decide)
          have g3 := hr2.frozen 3
          have x4 := hA2.cell (k := 4) (by decide)
          have y4 := hr2.cell (k := 4) (by decide)
          have g4 := hr2.frozen 4
          have x5 := hA2.cell (k := 5) (by decide)
          have y5 := hr2.cell (k := 5) (by decide)
          have g5 := hr2.frozen 5
          have x6 := hA2.cell (k := 6) (by decide)
          have y6 := hr2.cell (k := 6) (by decide)
          have g6 := hr2.frozen 6
          have x7 := hA2.cell (k := 7) (by decide)
          have y7 := hr2.cell (k := 7) (by decide)
          have g7 := hr2.frozen 7
          go_wp2
          refine end_c23t (c := upd c k (c k + 1)) (v := .int .i64 0) (hr2.set8 (upd c k (c k + 1))) rfl rfl rfl rfl ?_
          exact ⟨tk_ret HT.out, hB2.grown (st8b_grown W2 (w.heap.size + 1) (upd c k (c k + 1))) hB2.size (fun k e => by cases e; omega)⟩

set_option maxHeartbeats 2000000 in
theorem rtick_any (c : Ck) (t : Int) (w : World) : Calls Tryd.prog 13 #[.agg (cl c), .int .i64 t] w fun e w' => e = .returned (.tuple #[.agg (cl (tk c t).1), .int .i64 (tk c t).2]) ∧ Below w.heap.size w w' := by
  have hA := (Blk.new w 23 c).alloc (.cells (cl z0) 23)
  have hr := Blk.new (w.alloc (.cells (cl c) 23)) 23 z0
  simp only [World.size_alloc] at hr
  have hB : Below w.heap.size w ((w.alloc (.cells (cl c) 23)).alloc (.cells (cl z0) 23)) := ((Below.refl _ w).alloc (Nat.le_refl _) _).alloc (by simp) _
  go_enter Tryd.func13, Tryd.ntmps13
  go_wp2_with fail
  refine (right_any c _).mono ?_
  rintro e w1 ⟨rfl, hb⟩
  have hA1 := hA.below hb (by simp; omega)
  have hr1 := hr.below hb (by simp)
  have hB1 : Below w.heap.size w w1 := hB.trans (hb.mono (by simp; omega))
  clear hA hr hb hB
  have y0 := hr1.cell (k := 0) (by decide)
  have g0 := hr1.frozen 0
  have y1 := hr1.cell (k := 1) (by decide)
  have g1 := hr1.frozen 1
  have y2 := hr1.cell (k := 2) (by decide)
  have g2 := hr1.frozen 2
  have y3 := hr1.cell (k := 3) (by decide)
  have g3 := hr1.frozen 3
  have y4 := hr1.cell (k := 4) (by decide)
  have g4 := hr1.frozen 4
  have y5 := hr1.cell (k := 5) (by decide)
  have g5 := hr1.frozen 5
  have y6 := hr1.cell (k := 6) (by decide)
  have g6 := hr1.frozen 6
  have y7 := hr1.cell (k := 7) (by decide)
  have g7 := hr1.frozen 7
  cases hok : okC c
  · have HT : Hid (tk c t = (z0, 2)) := tk_bad hok
    clear hok
    go_wp2
    refine end_c23t (c := z0) (v := .int .i64 2) (hr1.set8 z0) rfl rfl rfl rfl ?_
    exact ⟨tk_ret HT.out, hB1.grown (st8b_grown w1 (w.heap.size + 1) z0) hB1.size (fun k e => by cases e; omega)⟩
  · by_cases h0 : t < 0
    · have HT : Hid (tk c t = (z0, 4)) := tk_low hok h0
      clear hok
      go_wp2
      refine end_c23t (c := z0) (v := .int .i64 4) (hr1.set8 z0) rfl rfl rfl rfl ?_
      exact ⟨tk_ret HT.out, hB1.grown (st8b_grown w1 (w.heap.size + 1) z0) hB1.size (fun k e => by cases e; omega)⟩
    · by_cases h8 : 8 ≤ t
      · have HT : Hid (tk c t = (z0, 4)) := tk_high hok h8
        clear hok
        go_wp2
        refine end_c23t (c := z0) (v := .int .i64 4) (hr1.set8 z0) rfl rfl rfl rfl ?_
        exact ⟨tk_ret HT.out, hB1.grown (st8b_grown w1 (w.heap.size + 1) z0) hB1.size (fun k e => by cases e; omega)⟩
      · obtain ⟨k, rfl⟩ : ∃ k : Nat, t = (k : Int) := ⟨t.toNat, by omega⟩
        have hk : k < 8 := by omega
        have hck := hA1.cell hk
        have hfk := hA1.frozen k
        have hlo : 0 ≤ c k := okI_lo (okC_at hok hk)
        have hhi : c k ≤ 4611686018427387904 := okI_hi (okC_at hok hk)
        by_cases hm : c k = 4611686018427387904
        · have HT : Hid (tk c k = (z0, 4)) := tk_most hok hm
          have hm' : ((c k) == 4611686018427387904) = true := beq_iff_eq.2 hm
          clear hok hm
          go_wp2
          refine end_c23t (c := z0) (v := .int .i64 4) (hr1.set8 z0) rfl rfl rfl rfl ?_
          exact ⟨tk_ret HT.out, hB1.grown (st8b_grown w1 (w.heap.size + 1) z0) hB1.size (fun k e => by cases e; omega)⟩
        · have HT : Hid (tk c k = (upd c k (c k + 1), 0)) := tk_ok hok hk hm
          have hm' : ((c k) == 4611686018427387904) = false := beq_eq_false_iff_ne.2 hm
          have hlt : c k < 4611686018427387904 := by omega
          clear hok hm hhi
          go_upto_region 6 with (fail)
          have hA2 := hA1.set hk (c k + 1)
          have hr2 := hr1.other (b' := w.heap.size) (by omega) k (.int .i64 (c k + 1))
          have hB2 := hB1.setCell (p := ⟨w.heap.size, k, none⟩) (Nat.le_refl _) (.int .i64 (c k + 1))
          clear y0 g0 y1 g1 y2 g2 y3 g3 y4 g4 y5 g5 y6 g6 y7 g7 hck hfk hA1 hr1 hB1 hlo hlt hm'
          generalize w1.setCell ⟨w.heap.size, k, none⟩ (.int .i64 (c k + 1)) = W2 at *
          have x0 := hA2.cell (k := 0) (by decide)
          have y0 := hr2.cell (k := 0) (by decide)
          have g0 := hr2.frozen 0
          have x1 := hA2.cell (k := 1) (by decide)
          have y1 := hr2.cell (k := 1) (by decide)
          have g1 := hr2.frozen 1
          have x2 := hA2.cell (k := 2) (by decide)
          have y2 := hr2.cell (k := 2) (by decide)
          have g2 := hr2.frozen 2
          have x3 := hA2.cell (k := 3) (by decide)
          have y3 := hr2.cell (k := 3) (by decide)
          have g3 := hr2.frozen 3
          have x4 := hA2.cell (k := 4) (by decide)
          have y4 := hr2.cell (k := 4) (by decide)
          have g4 := hr2.frozen 4
          have x5 := hA2.cell (k := 5) (by decide)
          have y5 := hr2.cell (k := 5) (by decide)
          have g5 := hr2.frozen 5
          have x6 := hA2.cell (k := 6) (by decide)
          have y6 := hr2.cell (k := 6) (by decide)
          have g6 := hr2.frozen 6
          have x7 := hA2.cell (k := 7) (by decide)
          have y7 := hr2.cell (k := 7) (by decide)
          have g7 := hr2.frozen 7
          go_wp2
          refine end_c23t (c := upd c k (c k + 1)) (v := .int .i64 0) (hr2.set8 (upd c k (c k + 1))) rfl rfl rfl rfl ?_
          exact ⟨tk_ret HT.out, hB2.grown (st8b_grown W2 (w.heap.size + 1) (upd c k (c k + 1))) hB2.size (fun k e => by cases e; omega)⟩

end Go.Proofs.YtnalpladieoegaaDoor
