/- Within, before, apart: what the program's exported functions return. No condition. -/
import Derived.Test.YtnalpladieoegaaDoorFoldB
import Derived.Test.YtnalpladieoegaaDoorEqc
namespace Go.Proofs.YtnalpladieoegaaDoor
open Go.RowKit Go.Shelf

def befB (a b : Ck) : Bool := !eqB a b && wiB a b
def apB (a b : Ck) : Bool := !wiB a b && !wiB b a

set_option maxHeartbeats 400000 in
theorem before_any (a b : Ck) (w : World) : Calls Tryd.prog 50 #[.agg (cl a), .agg (cl b)] w fun e w' => e = .returned (.bool (befB a b)) ∧ Below w.heap.size w w' := by
  have heq := fun w => eqc_run Tryd.underlying68 a b w
  have hB : Below w.heap.size w ((w.alloc (.cells (cl a) 68)).alloc (.cells (cl b) 68)) := ((Below.refl _ w).alloc (Nat.le_refl _) _).alloc (by simp) _
  cases he : eqB a b
  · rw [he] at heq
    have HF : Hid (befB a b = wiB a b) := by unfold befB; rw [he]; rfl
    clear he
    go_enter Tryd.func50, Tryd.ntmps50
    go_wp2_with (go_at_call 49; refine (within_any a b _).mono ?_; rintro e w' ⟨rfl, hb⟩)
    go_ret
    exact ⟨ret_bool HF.out.symm, hB.trans (hb.mono (by simp; omega))⟩
  · rw [he] at heq
    have HF : Hid (befB a b = false) := by unfold befB; rw [he]; rfl
    clear he
    go_enter Tryd.func50, Tryd.ntmps50
    go_wp2_with (go_at_call 49; refine (within_any a b _).mono ?_; rintro e w' ⟨rfl, hb⟩)
    go_ret
    exact ⟨ret_bool HF.out.symm, hB⟩

set_option maxHeartbeats 400000 in
theorem apart_any (a b : Ck) (w : World) : Calls Tryd.prog 51 #[.agg (cl a), .agg (cl b)] w fun e w' => e = .returned (.bool (apB a b)) ∧ Below w.heap.size w w' := by
  have hB : Below w.heap.size w ((w.alloc (.cells (cl a) 68)).alloc (.cells (cl b) 68)) := ((Below.refl _ w).alloc (Nat.le_refl _) _).alloc (by simp) _
  go_enter Tryd.func51, Tryd.ntmps51
  go_wp2_with fail
  refine (within_any a b _).mono ?_
  rintro e w1 ⟨rfl, hb⟩
  have hA := (((Blk.new w 68 a).alloc (.cells (cl b) 68)).below hb (by simp; omega))
  have hC := Blk.new (w.alloc (.cells (cl a) 68)) 68 b
  rw [World.size_alloc] at hC
  have hC := hC.below hb (by simp)
  have x0 := hA.cell (k := 0) (by decide)
  have x1 := hA.cell (k := 1) (by decide)
  have x2 := hA.cell (k := 2) (by decide)
  have x3 := hA.cell (k := 3) (by decide)
  have x4 := hA.cell (k := 4) (by decide)
  have x5 := hA.cell (k := 5) (by decide)
  have x6 := hA.cell (k := 6) (by decide)
  have x7 := hA.cell (k := 7) (by decide)
  have y0 := hC.cell (k := 0) (by decide)
  have y1 := hC.cell (k := 1) (by decide)
  have y2 := hC.cell (k := 2) (by decide)
  have y3 := hC.cell (k := 3) (by decide)
  have y4 := hC.cell (k := 4) (by decide)
  have y5 := hC.cell (k := 5) (by decide)
  have y6 := hC.cell (k := 6) (by decide)
  have y7 := hC.cell (k := 7) (by decide)
  have hB1 : Below w.heap.size w w1 := hB.trans (hb.mono (by simp; omega))
  have HF : Hid (apB a b = (!wiB a b && !wiB b a)) := rfl
  cases he : wiB a b
  · rw [he] at HF
    go_wp2_with fail
    refine (within_any b a _).mono ?_
    rintro e w2 ⟨rfl, hb2⟩
    go_wp2
    go_ret
    exact ⟨ret_bool (by rw [HF.out]; rfl), hB1.trans (hb2.mono (hB1.size))⟩
  · rw [he] at HF
    go_wp2_with fail
    go_ret
    exact ⟨ret_bool (by rw [HF.out]; rfl), hB1⟩

set_option maxHeartbeats 400000 in
theorem ask_any (f : Nat) (r : Bool) (a b : Ck) (w : World) (hf : f = 49 ∨ f = 50 ∨ f = 51)
    (h : ∀ w, Calls Tryd.prog f #[.agg (cl a), .agg (cl b)] w fun e w' => e = .returned (.bool r) ∧ Below w.heap.size w w') :
    Calls Tryd.prog 48 #[.func (.func f) #[] #[], .agg (cl a), .agg (cl b)] w fun e w' => e = .returned (.bool r) ∧ Below w.heap.size w w' := by
  have hB : Below w.heap.size w ((w.alloc (.cells (cl a) 23)).alloc (.cells (cl b) 23)) := ((Below.refl _ w).alloc (Nat.le_refl _) _).alloc (by simp) _
  have H := Lib.hid h
  clear h
  rcases hf with rfl | rfl | rfl
  all_goals
    go_enter Tryd.func48, Tryd.ntmps48
    go_wp2_with fail
    refine (H.out _).mono ?_
    rintro e w1 ⟨rfl, hb⟩
    go_wp2
    go_ret
    exact ⟨rfl, hB.trans (hb.mono (by simp; omega))⟩

set_option maxHeartbeats 400000 in
theorem Within_any (a b : Ck) (w : World) : Calls Tryd.prog 21 #[.agg (cl a), .agg (cl b)] w fun e w' => e = .returned (.bool (wiB a b)) ∧ Below w.heap.size w w' := by
  have hB : Below w.heap.size w ((w.alloc (.cells (cl a) 23)).alloc (.cells (cl b) 23)) := ((Below.refl _ w).alloc (Nat.le_refl _) _).alloc (by simp) _
  go_enter Tryd.func21, Tryd.ntmps21
  go_wp2_with fail
  refine (ask_any 49 (wiB a b) a b _ (by decide) (fun w => within_any a b w)).mono ?_
  rintro e w1 ⟨rfl, hb⟩
  go_wp2
  go_ret
  exact ⟨rfl, hB.trans (hb.mono (by simp; omega))⟩

set_option maxHeartbeats 400000 in
theorem Before_any (a b : Ck) (w : World) : Calls Tryd.prog 22 #[.agg (cl a), .agg (cl b)] w fun e w' => e = .returned (.bool (befB a b)) ∧ Below w.heap.size w w' := by
  have hB : Below w.heap.size w ((w.alloc (.cells (cl a) 23)).alloc (.cells (cl b) 23)) := ((Below.refl _ w).alloc (Nat.le_refl _) _).alloc (by simp) _
  go_enter Tryd.func22, Tryd.ntmps22
  go_wp2_with fail
  refine (ask_any 50 (befB a b) a b _ (by decide) (fun w => before_any a b w)).mono ?_
  rintro e w1 ⟨rfl, hb⟩
  go_wp2
  go_ret
  exact ⟨rfl, hB.trans (hb.mono (by simp; omega))⟩

set_option maxHeartbeats 400000 in
theorem Apart_any (a b : Ck) (w : World) : Calls Tryd.prog 23 #[.agg (cl a), .agg (cl b)] w fun e w' => e = .returned (.bool (apB a b)) ∧ Below w.heap.size w w' := by
  have hB : Below w.heap.size w ((w.alloc (.cells (cl a) 23)).alloc (.cells (cl b) 23)) := ((Below.refl _ w).alloc (Nat.le_refl _) _).alloc (by simp) _
  go_enter Tryd.func23, Tryd.ntmps23
  go_wp2_with fail
  refine (ask_any 51 (apB a b) a b _ (by decide) (fun w => apart_any a b w)).mono ?_
  rintro e w1 ⟨rfl, hb⟩
  go_wp2
  go_ret
  exact ⟨rfl, hB.trans (hb.mono (by simp; omega))⟩
end Go.Proofs.YtnalpladieoegaaDoor
