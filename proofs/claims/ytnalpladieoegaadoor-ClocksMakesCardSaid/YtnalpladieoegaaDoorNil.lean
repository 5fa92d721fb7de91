/- What is told of no watch. No condition. -/
import Derived.Test.YtnalpladieoegaaDoorMove
import Derived.Test.YtnalpladieoegaaDoorNew
namespace Go.Proofs.YtnalpladieoegaaDoor
open Go.RowKit Go.Shelf

set_option maxHeartbeats 2000000 in
theorem step_nil (w : World) (t : Int) :
    Calls Tryd.prog 29 #[.pointer none, .int .i64 t] w fun e w' => e = .returned (.tuple #[.agg (cl z0), .int .i64 1]) ∧ Below w.heap.size w w' := by
  have hr := Blk.new w 23 z0
  have hB : Below w.heap.size w (w.alloc (.cells (cl z0) 23)) := (Below.refl _ w).alloc (Nat.le_refl _) _
  go_enter Tryd.func29, Tryd.ntmps29
  go_wp2_with fail
  change Calls _ _ _ (w.alloc (.cells (cl z0) 23)) _
  generalize w.alloc (.cells (cl z0) 23) = W at *
  refine (there_nil W).mono ?_
  rintro e w' ⟨rfl, rfl⟩
  have x0 := hr.cell (k := 0) (by decide)
  have x1 := hr.cell (k := 1) (by decide)
  have x2 := hr.cell (k := 2) (by decide)
  have x3 := hr.cell (k := 3) (by decide)
  have x4 := hr.cell (k := 4) (by decide)
  have x5 := hr.cell (k := 5) (by decide)
  have x6 := hr.cell (k := 6) (by decide)
  have x7 := hr.cell (k := 7) (by decide)
  have f0 := hr.frozen 0
  have f1 := hr.frozen 1
  have f2 := hr.frozen 2
  have f3 := hr.frozen 3
  have f4 := hr.frozen 4
  have f5 := hr.frozen 5
  have f6 := hr.frozen 6
  have f7 := hr.frozen 7
  go_wp2
  refine end_c23t (c := z0) (v := .int .i64 1) (hr.set8 z0) rfl rfl rfl rfl ?_
  exact ⟨rfl, hB.grown (st8b_grown W w.heap.size z0) hB.size (fun k e => by cases e; exact Nat.le_refl _)⟩

set_option maxHeartbeats 2000000 in
theorem thread_nil (w : World) (t : Int) :
    Calls Tryd.prog 34 #[.pointer none, .int .i64 t] w fun e w' => e = .returned (.tuple #[.agg (cl z0), .int .i64 1]) ∧ Below w.heap.size w w' := by
  have hr := Blk.new w 23 z0
  have hB : Below w.heap.size w (w.alloc (.cells (cl z0) 23)) := (Below.refl _ w).alloc (Nat.le_refl _) _
  go_enter Tryd.func34, Tryd.ntmps34
  go_wp2_with fail
  change Calls _ _ _ (w.alloc (.cells (cl z0) 23)) _
  generalize w.alloc (.cells (cl z0) 23) = W at *
  refine (there_nil W).mono ?_
  rintro e w' ⟨rfl, rfl⟩
  have x0 := hr.cell (k := 0) (by decide)
  have x1 := hr.cell (k := 1) (by decide)
  have x2 := hr.cell (k := 2) (by decide)
  have x3 := hr.cell (k := 3) (by decide)
  have x4 := hr.cell (k := 4) (by decide)
  have x5 := hr.cell (k := 5) (by decide)
  have x6 := hr.cell (k := 6) (by decide)
  have x7 := hr.cell (k := 7) (by decide)
  have f0 := hr.frozen 0
  have f1 := hr.frozen 1
  have f2 := hr.frozen 2
  have f3 := hr.frozen 3
  have f4 := hr.frozen 4
  have f5 := hr.frozen 5
  have f6 := hr.frozen 6
  have f7 := hr.frozen 7
  go_wp2
  refine end_c23t (c := z0) (v := .int .i64 1) (hr.set8 z0) rfl rfl rfl rfl ?_
  exact ⟨rfl, hB.grown (st8b_grown W w.heap.size z0) hB.size (fun k e => by cases e; exact Nat.le_refl _)⟩

set_option maxHeartbeats 2000000 in
theorem place_nil (w : World) (t : Int) :
    Calls Tryd.prog 35 #[.pointer none, .int .i64 t] w fun e w' => e = .returned (.tuple #[.agg (cl z0), .int .i64 1]) ∧ Below w.heap.size w w' := by
  have hr := Blk.new w 23 z0
  have hB : Below w.heap.size w (w.alloc (.cells (cl z0) 23)) := (Below.refl _ w).alloc (Nat.le_refl _) _
  go_enter Tryd.func35, Tryd.ntmps35
  go_wp2_with fail
  change Calls _ _ _ (w.alloc (.cells (cl z0) 23)) _
  generalize w.alloc (.cells (cl z0) 23) = W at *
  refine (there_nil W).mono ?_
  rintro e w' ⟨rfl, rfl⟩
  have x0 := hr.cell (k := 0) (by decide)
  have x1 := hr.cell (k := 1) (by decide)
  have x2 := hr.cell (k := 2) (by decide)
  have x3 := hr.cell (k := 3) (by decide)
  have x4 := hr.cell (k := 4) (by decide)
  have x5 := hr.cell (k := 5) (by decide)
  have x6 := hr.cell (k := 6) (by decide)
  have x7 := hr.cell (k := 7) (by decide)
  have f0 := hr.frozen 0
  have f1 := hr.frozen 1
  have f2 := hr.frozen 2
  have f3 := hr.frozen 3
  have f4 := hr.frozen 4
  have f5 := hr.frozen 5
  have f6 := hr.frozen 6
  have f7 := hr.frozen 7
  go_wp2
  refine end_c23t (c := z0) (v := .int .i64 1) (hr.set8 z0) rfl rfl rfl rfl ?_
  exact ⟨rfl, hB.grown (st8b_grown W w.heap.size z0) hB.size (fun k e => by cases e; exact Nat.le_refl _)⟩

set_option maxHeartbeats 2000000 in
theorem pair_nil (w : World) (i j : Int) (b : Bool) :
    Calls Tryd.prog 58 #[.pointer none, .int .i64 i, .bool b, .int .i64 j] w fun e w' => e = .returned (.tuple #[.pointer none, .pointer none, .int .i64 1]) ∧ w = w' := by
  go_enter Tryd.func58, Tryd.ntmps58
  go_wp2_with fail
  refine (there_nil w).mono ?_
  rintro e w' ⟨rfl, rfl⟩
  go_wp2
  go_ret3
  exact ⟨rfl, rfl⟩

set_option maxHeartbeats 2000000 in
theorem give_nil (w : World) (i j : Int) :
    Calls Tryd.prog 36 #[.pointer none, .int .i64 i, .int .i64 j] w fun e w' => e = .returned (.int .i64 1) ∧ w = w' := by
  go_enter Tryd.func36, Tryd.ntmps36
  go_wp2_with fail
  refine (pair_nil w i j true).mono ?_
  rintro e w' ⟨rfl, rfl⟩
  go_wp2
  go_ret
  exact ⟨rfl, rfl⟩

set_option maxHeartbeats 2000000 in
theorem take_nil (w : World) (i j : Int) :
    Calls Tryd.prog 37 #[.pointer none, .int .i64 i, .int .i64 j] w fun e w' => e = .returned (.int .i64 1) ∧ w = w' := by
  go_enter Tryd.func37, Tryd.ntmps37
  go_wp2_with fail
  refine (pair_nil w i j true).mono ?_
  rintro e w' ⟨rfl, rfl⟩
  go_wp2
  go_ret
  exact ⟨rfl, rfl⟩

set_option maxHeartbeats 2000000 in
theorem spawn_nil (w : World) (i j : Int) :
    Calls Tryd.prog 38 #[.pointer none, .int .i64 i, .int .i64 j] w fun e w' => e = .returned (.int .i64 1) ∧ w = w' := by
  go_enter Tryd.func38, Tryd.ntmps38
  go_wp2_with fail
  refine (pair_nil w i j false).mono ?_
  rintro e w' ⟨rfl, rfl⟩
  go_wp2
  go_ret
  exact ⟨rfl, rfl⟩

set_option maxHeartbeats 2000000 in
theorem meet_nil (w : World) (i j : Int) :
    Calls Tryd.prog 39 #[.pointer none, .int .i64 i, .int .i64 j] w fun e w' => e = .returned (.int .i64 1) ∧ w = w' := by
  go_enter Tryd.func39, Tryd.ntmps39
  go_wp2_with fail
  refine (pair_nil w i j false).mono ?_
  rintro e w' ⟨rfl, rfl⟩
  go_wp2
  go_ret
  exact ⟨rfl, rfl⟩

set_option maxHeartbeats 2000000 in
theorem copy_nil (w : World) : Calls Tryd.prog 32 #[.pointer none] w fun e w' => e = .returned (.pointer none) ∧ w = w' := by
  go_enter Tryd.func32, Tryd.ntmps32
  go_wp2_with fail
  refine (there_nil w).mono ?_
  rintro e w' ⟨rfl, rfl⟩
  go_wp2
  go_ret
  exact ⟨rfl, rfl⟩

set_option maxHeartbeats 2000000 in
theorem same_nil_nil (w : World) : Calls Tryd.prog 40 #[.pointer none, .pointer none] w fun e w' => e = .returned (.bool true) ∧ w = w' := by
  go_enter Tryd.func40, Tryd.ntmps40
  go_wp2_with (go_at_call 54; refine (there_nil w).mono ?_; rintro e w' ⟨rfl, rfl⟩)
  go_ret
  exact ⟨rfl, rfl⟩
set_option maxHeartbeats 2000000 in
theorem same_nil {w : World} {p tb pb : Nat} {th pl : List Ck} (hW : Wt w p tb pb th pl) (hn : 0 < th.length) : Calls Tryd.prog 40 #[.pointer none, .pointer (some ⟨p, 0, none⟩)] w fun e w' => e = .returned (.bool false) ∧ w = w' := by
  go_enter Tryd.func40, Tryd.ntmps40
  go_wp2_with fail
  refine (there_nil w).mono ?_
  rintro e w' ⟨rfl, rfl⟩
  go_wp2_with fail
  refine (there_nil w).mono ?_
  rintro e w' ⟨rfl, rfl⟩
  go_wp2_with fail
  refine (there_any hW hn).mono ?_
  rintro e w' ⟨rfl, rfl⟩
  go_wp2
  go_ret
  exact ⟨rfl, rfl⟩
set_option maxHeartbeats 2000000 in
theorem same_to_nil {w : World} {p tb pb : Nat} {th pl : List Ck} (hW : Wt w p tb pb th pl) (hn : 0 < th.length) : Calls Tryd.prog 40 #[.pointer (some ⟨p, 0, none⟩), .pointer none] w fun e w' => e = .returned (.bool false) ∧ w = w' := by
  go_enter Tryd.func40, Tryd.ntmps40
  go_wp2_with fail
  refine (there_any hW hn).mono ?_
  rintro e w' ⟨rfl, rfl⟩
  go_wp2_with fail
  refine (there_nil w).mono ?_
  rintro e w' ⟨rfl, rfl⟩
  go_wp2_with fail
  refine (there_any hW hn).mono ?_
  rintro e w' ⟨rfl, rfl⟩
  go_wp2_with fail
  refine (there_nil w).mono ?_
  rintro e w' ⟨rfl, rfl⟩
  go_wp2
  go_ret
  exact ⟨rfl, rfl⟩
end Go.Proofs.YtnalpladieoegaaDoor
