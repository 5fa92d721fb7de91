/- A watch's Step, Thread and Place. Asked: the watch lies. -/
import Derived.Test.YtnalpladieoegaaDoorWatch
import Derived.Test.YtnalpladieoegaaDoorTick
import Derived.Deep.Cut
namespace Go.Proofs.YtnalpladieoegaaDoor
open Go.RowKit Go.Shelf

theorem grown_none {w w' : World} (h : Below w.heap.size w w') : w.grownBy w' none := ⟨h.os, h.tape, h.output, h.size, fun k hk _ => h.block k hk⟩
theorem grown_of {w w' : World} {row : Option Nat} (h : w.grownBy w' none) : w.grownBy w' row := ⟨h.os, h.tape, h.output, h.size, fun k hk _ => h.block k hk (by simp)⟩
theorem grown_alloc (w : World) (o : Obj) : w.grownBy (w.alloc o) none := World.grownBy_alloc w o none
/-- A step that turns one block, which is new. -/
theorem grown_new {w w1 w' : World} {b : Nat} {row : Option Nat} (h : w.grownBy w1 row) (hg : w1.grownBy w' (some b)) (hb : w.heap.size ≤ b) : w.grownBy w' row :=
  ⟨hg.os.trans h.os, hg.tape.trans h.tape, hg.output.trans h.output, Nat.le_trans h.size hg.size, fun k hk hne => (hg.block k (Nat.lt_of_lt_of_le hk h.size) (nesome (by omega))).trans (h.block k hk hne)⟩
theorem Wt.rowSet {w w' : World} {p tb pb : Nat} {th pl th' : List Ck} (h : Wt w p tb pb th pl) (hg : w.grownBy w' (some tb)) (hr : Row w' tb 68 th') (hl : th'.length = th.length) : Wt w' p tb pb th' pl :=
  ⟨by rw [hl]; exact (hg.block p h.ptl (nesome h.npt)).trans h.st, hr, h.pc.kept hg (nesome h.ntp.symm), h.npt, h.npp, h.ntp⟩
theorem Wt.rowSetP {w w' : World} {p tb pb : Nat} {th pl pl' : List Ck} (h : Wt w p tb pb th pl) (hg : w.grownBy w' (some pb)) (hr : Row w' pb 68 pl') (hl : pl'.length = pl.length) : Wt w' p tb pb th pl' :=
  ⟨by rw [hl]; exact (hg.block p h.ptl (nesome h.npp)).trans h.st, h.tc.kept hg (nesome h.ntp), hr, h.npt, h.npp, h.ntp⟩
theorem Wt.newSet {w w' : World} {p tb pb b : Nat} {th pl : List Ck} (h : Wt w p tb pb th pl) (hg : w.grownBy w' (some b)) (h1 : p ≠ b) (h2 : tb ≠ b) (h3 : pb ≠ b) : Wt w' p tb pb th pl :=
  ⟨(hg.block p h.ptl (nesome h1)).trans h.st, h.tc.kept hg (nesome h2), h.pc.kept hg (nesome h3), h.npt, h.npp, h.ntp⟩

set_option maxHeartbeats 2000000 in
theorem step_ok {w : World} {p tb pb : Nat} {th pl : List Ck} (hW : Wt w p tb pb th pl) {i : Nat} {d : Ck} (hi : i < th.length) (hn : th.length ≤ 8) (hT : tk (at_ th i) i = (d, 0)) :
    Calls Tryd.prog 29 #[.pointer (some ⟨p, 0, none⟩), .int .i64 (i : Int)] w fun e w' => e = .returned (.tuple #[.agg (cl d), .int .i64 0]) ∧ Wt w' p tb pb (th.set i d) pl ∧ w.grownBy w' (some tb) := by
  have HC : Hid (∀ W, Calls Tryd.prog 12 #[.agg (cl (at_ th i)), .int .i64 (i : Int)] W fun e w' => e = .returned (.tuple #[.agg (cl d), .int .i64 0]) ∧ Below W.heap.size W w') := fun W => by
    have := Tick_any (at_ th i) i W
    rw [hT] at this
    exact this
  clear hT
  have hW0 := hW.kept (grown_alloc w (.cells (cl z0) 23))
  have hr := Blk.new w 23 z0
  have hg0 := grown_alloc w (.cells (cl z0) 23)
  have l1 := hW.ptl
  have l2 := hW.tc.lt
  have l3 := hW.pc.lt
  go_enter Tryd.func29, Tryd.ntmps29
  go_wp2_with fail
  change Calls _ _ _ (w.alloc (.cells (cl z0) 23)) _
  obtain ⟨W, hWW⟩ : ∃ W, w.alloc (.cells (cl z0) 23) = W := ⟨_, rfl⟩
  rw [hWW] at hW0 hr hg0 ⊢
  clear hWW
  refine (there_any hW0 (by omega)).mono ?_
  rintro e w' ⟨rfl, rfl⟩
  have q0 := hW0.c0
  go_wp2_with fail
  refine (find_in W tb th.length i hi (by omega)).mono ?_
  rintro e w' ⟨rfl, rfl⟩
  clear q0
  have x0 := hW0.tc.cell (j := 0) hi (by decide)
  rw [Nat.add_zero] at x0
  have x1 := hW0.tc.cell (j := 1) hi (by decide)
  have x2 := hW0.tc.cell (j := 2) hi (by decide)
  have x3 := hW0.tc.cell (j := 3) hi (by decide)
  have x4 := hW0.tc.cell (j := 4) hi (by decide)
  have x5 := hW0.tc.cell (j := 5) hi (by decide)
  have x6 := hW0.tc.cell (j := 6) hi (by decide)
  have x7 := hW0.tc.cell (j := 7) hi (by decide)
  go_wp2_with fail
  refine (HC.out W).mono ?_
  rintro e w1 ⟨rfl, hb⟩
  clear x0 x1 x2 x3 x4 x5 x6 x7
  have hW1 := hW0.below hb
  have hr1 := hr.below hb hr.lt
  have hg1 := hg0.trans (grown_none hb)
  clear hW0 hr hg0 hb
  have hsz1 : w.heap.size < w1.heap.size := hr1.lt
  have hW2 := hW1.kept (grown_alloc w1 (.cells (cl d) 23))
  have hr2 := hr1.alloc (.cells (cl d) 23)
  have hd2 := Blk.new w1 23 d
  have hg2 := hg1.trans (grown_alloc w1 (.cells (cl d) 23))
  go_upto_region 9 with (fail)
  change Code.wp _ _ _ _ (w1.alloc (.cells (cl d) 23))
  obtain ⟨W2, hWW⟩ : ∃ W2, w1.alloc (.cells (cl d) 23) = W2 := ⟨_, rfl⟩
  rw [hWW] at hW2 hr2 hd2 hg2 ⊢
  clear hWW hW1 hr1 hg1
  have x0 := hW2.tc.cell (j := 0) hi (by decide)
  rw [Nat.add_zero] at x0
  have x1 := hW2.tc.cell (j := 1) hi (by decide)
  have x2 := hW2.tc.cell (j := 2) hi (by decide)
  have x3 := hW2.tc.cell (j := 3) hi (by decide)
  have x4 := hW2.tc.cell (j := 4) hi (by decide)
  have x5 := hW2.tc.cell (j := 5) hi (by decide)
  have x6 := hW2.tc.cell (j := 6) hi (by decide)
  have x7 := hW2.tc.cell (j := 7) hi (by decide)
  have f0 := hW2.tc.frozen (i * 8)
  have f1 := hW2.tc.frozen (i * 8 + 1)
  have f2 := hW2.tc.frozen (i * 8 + 2)
  have f3 := hW2.tc.frozen (i * 8 + 3)
  have f4 := hW2.tc.frozen (i * 8 + 4)
  have f5 := hW2.tc.frozen (i * 8 + 5)
  have f6 := hW2.tc.frozen (i * 8 + 6)
  have f7 := hW2.tc.frozen (i * 8 + 7)
  have y0 := hd2.cell (k := 0) (by decide)
  have y1 := hd2.cell (k := 1) (by decide)
  have y2 := hd2.cell (k := 2) (by decide)
  have y3 := hd2.cell (k := 3) (by decide)
  have y4 := hd2.cell (k := 4) (by decide)
  have y5 := hd2.cell (k := 5) (by decide)
  have y6 := hd2.cell (k := 6) (by decide)
  have y7 := hd2.cell (k := 7) (by decide)
  go_upto_region 10 with (fail)
  have hR := hW2.tc.set8 hi d
  have hG := st8_grown W2 tb (i * 8) d
  have hW3 := hW2.rowSet hG hR (by simp)
  have hr3 := hr2.kept hG (nesome (by omega))
  have hd3 := hd2.kept hG (nesome (by omega))
  have hg3 : w.grownBy (st8 W2 tb (i * 8) d) (some tb) := (grown_of hg2).trans hG
  clear x0 x1 x2 x3 x4 x5 x6 x7 f0 f1 f2 f3 f4 f5 f6 f7 y0 y1 y2 y3 y4 y5 y6 y7 hG hR hW2 hr2 hd2 hg2
  change Code.wp _ _ _ _ (st8 W2 tb (i * 8) d)
  generalize st8 W2 tb (i * 8) d = W3 at *
  have y0 := hd3.cell (k := 0) (by decide)
  have y1 := hd3.cell (k := 1) (by decide)
  have y2 := hd3.cell (k := 2) (by decide)
  have y3 := hd3.cell (k := 3) (by decide)
  have y4 := hd3.cell (k := 4) (by decide)
  have y5 := hd3.cell (k := 5) (by decide)
  have y6 := hd3.cell (k := 6) (by decide)
  have y7 := hd3.cell (k := 7) (by decide)
  have x0 := hr3.cell (k := 0) (by decide)
  have x1 := hr3.cell (k := 1) (by decide)
  have x2 := hr3.cell (k := 2) (by decide)
  have x3 := hr3.cell (k := 3) (by decide)
  have x4 := hr3.cell (k := 4) (by decide)
  have x5 := hr3.cell (k := 5) (by decide)
  have x6 := hr3.cell (k := 6) (by decide)
  have x7 := hr3.cell (k := 7) (by decide)
  have f0 := hr3.frozen 0
  have f1 := hr3.frozen 1
  have f2 := hr3.frozen 2
  have f3 := hr3.frozen 3
  have f4 := hr3.frozen 4
  have f5 := hr3.frozen 5
  have f6 := hr3.frozen 6
  have f7 := hr3.frozen 7
  go_wp2
  refine end_c23t (c := d) (v := .int .i64 0) (hr3.set8 d) rfl rfl rfl rfl ?_
  have hG4 := st8b_grown W3 w.heap.size d
  exact ⟨rfl, hW3.newSet hG4 (by omega) (by omega) (by omega), grown_new hg3 hG4 (Nat.le_refl _)⟩

set_option maxHeartbeats 2000000 in
theorem step_bad {w : World} {p tb pb : Nat} {th pl : List Ck} (hW : Wt w p tb pb th pl) {i : Nat} {d : Ck} {n : Int} (hi : i < th.length) (hn : th.length ≤ 8) (hT : tk (at_ th i) i = (d, n)) (hz : (n != 0) = true) :
    Calls Tryd.prog 29 #[.pointer (some ⟨p, 0, none⟩), .int .i64 (i : Int)] w fun e w' => e = .returned (.tuple #[.agg (cl z0), .int .i64 n]) ∧ Wt w' p tb pb th pl ∧ w.grownBy w' none := by
  have HC : Hid (∀ W, Calls Tryd.prog 12 #[.agg (cl (at_ th i)), .int .i64 (i : Int)] W fun e w' => e = .returned (.tuple #[.agg (cl d), .int .i64 n]) ∧ Below W.heap.size W w') := fun W => by
    have := Tick_any (at_ th i) i W
    rw [hT] at this
    exact this
  clear hT
  have hW0 := hW.kept (grown_alloc w (.cells (cl z0) 23))
  have hr := Blk.new w 23 z0
  have hg0 := grown_alloc w (.cells (cl z0) 23)
  have l1 := hW.ptl
  have l2 := hW.tc.lt
  have l3 := hW.pc.lt
  go_enter Tryd.func29, Tryd.ntmps29
  go_wp2_with fail
  change Calls _ _ _ (w.alloc (.cells (cl z0) 23)) _
  obtain ⟨W, hWW⟩ : ∃ W, w.alloc (.cells (cl z0) 23) = W := ⟨_, rfl⟩
  rw [hWW] at hW0 hr hg0 ⊢
  clear hWW
  refine (there_any hW0 (by omega)).mono ?_
  rintro e w' ⟨rfl, rfl⟩
  have q0 := hW0.c0
  go_wp2_with fail
  refine (find_in W tb th.length i hi (by omega)).mono ?_
  rintro e w' ⟨rfl, rfl⟩
  clear q0
  have x0 := hW0.tc.cell (j := 0) hi (by decide)
  rw [Nat.add_zero] at x0
  have x1 := hW0.tc.cell (j := 1) hi (by decide)
  have x2 := hW0.tc.cell (j := 2) hi (by decide)
  have x3 := hW0.tc.cell (j := 3) hi (by decide)
  have x4 := hW0.tc.cell (j := 4) hi (by decide)
  have x5 := hW0.tc.cell (j := 5) hi (by decide)
  have x6 := hW0.tc.cell (j := 6) hi (by decide)
  have x7 := hW0.tc.cell (j := 7) hi (by decide)
  go_wp2_with fail
  refine (HC.out W).mono ?_
  rintro e w1 ⟨rfl, hb⟩
  clear x0 x1 x2 x3 x4 x5 x6 x7
  have hW1 := hW0.below hb
  have hr1 := hr.below hb hr.lt
  have hg1 := hg0.trans (grown_none hb)
  clear hW0 hr hg0 hb
  have hsz1 : w.heap.size < w1.heap.size := hr1.lt
  have hW2 := hW1.kept (grown_alloc w1 (.cells (cl d) 23))
  have hr2 := hr1.alloc (.cells (cl d) 23)
  have hg2 := hg1.trans (grown_alloc w1 (.cells (cl d) 23))
  go_upto_region 8 with (fail)
  change Code.wp _ _ _ _ (w1.alloc (.cells (cl d) 23))
  obtain ⟨W2, hWW⟩ : ∃ W2, w1.alloc (.cells (cl d) 23) = W2 := ⟨_, rfl⟩
  rw [hWW] at hW2 hr2 hg2 ⊢
  clear hWW hW1 hr1 hg1
  have x0 := hr2.cell (k := 0) (by decide)
  have x1 := hr2.cell (k := 1) (by decide)
  have x2 := hr2.cell (k := 2) (by decide)
  have x3 := hr2.cell (k := 3) (by decide)
  have x4 := hr2.cell (k := 4) (by decide)
  have x5 := hr2.cell (k := 5) (by decide)
  have x6 := hr2.cell (k := 6) (by decide)
  have x7 := hr2.cell (k := 7) (by decide)
  have f0 := hr2.frozen 0
  have f1 := hr2.frozen 1
  have f2 := hr2.frozen 2
  have f3 := hr2.frozen 3
  have f4 := hr2.frozen 4
  have f5 := hr2.frozen 5
  have f6 := hr2.frozen 6
  have f7 := hr2.frozen 7
  go_wp2
  refine end_c23t (c := z0) (v := .int .i64 n) (hr2.set8 z0) rfl rfl rfl rfl ?_
  have hG4 := st8b_grown W2 w.heap.size z0
  exact ⟨rfl, hW2.newSet hG4 (by omega) (by omega) (by omega), grown_new hg2 hG4 (Nat.le_refl _)⟩

set_option maxHeartbeats 2000000 in
theorem step_out {w : World} {p tb pb : Nat} {th pl : List Ck} (hW : Wt w p tb pb th pl) {i : Int} (hi : i < 0 ∨ (th.length : Int) ≤ i) (hn : 0 < th.length) :
    Calls Tryd.prog 29 #[.pointer (some ⟨p, 0, none⟩), .int .i64 i] w fun e w' => e = .returned (.tuple #[.agg (cl z0), .int .i64 4]) ∧ Wt w' p tb pb th pl ∧ w.grownBy w' none := by
  have hW0 := hW.kept (grown_alloc w (.cells (cl z0) 23))
  have hr := Blk.new w 23 z0
  have hg0 := grown_alloc w (.cells (cl z0) 23)
  have l1 := hW.ptl
  have l2 := hW.tc.lt
  have l3 := hW.pc.lt
  go_enter Tryd.func29, Tryd.ntmps29
  go_wp2_with fail
  change Calls _ _ _ (w.alloc (.cells (cl z0) 23)) _
  obtain ⟨W, hWW⟩ : ∃ W, w.alloc (.cells (cl z0) 23) = W := ⟨_, rfl⟩
  rw [hWW] at hW0 hr hg0 ⊢
  clear hWW
  refine (there_any hW0 hn).mono ?_
  rintro e w' ⟨rfl, rfl⟩
  have q0 := hW0.c0
  go_wp2_with fail
  refine (find_out W tb th.length i hi).mono ?_
  rintro e w' ⟨rfl, rfl⟩
  clear q0 hi
  have x0 := hr.cell (k := 0) (by decide)
  have x1 := hr.cell (k := 1) (by decide)
  have x2 := hr.cell (k := 2) (by decide)
  have x3 := hr.cell (k := 3) (by decide)
  have x4 := hr.cell (k := 4) (by decide)
  have x5 := hr.cell (k := 5) (by decide)
  have x6 := hr.cell (k := 6) (by decide)
  have x7 := hr.cell (k := 7) (by decide)
  have f0 := hr.frozen 0
  have f1 := hr.frozen 1
  have f2 := hr.frozen 2
  have f3 := hr.frozen 3
  have f4 := hr.frozen 4
  have f5 := hr.frozen 5
  have f6 := hr.frozen 6
  have f7 := hr.frozen 7
  go_wp2
  refine end_c23t (c := z0) (v := .int .i64 4) (hr.set8 z0) rfl rfl rfl rfl ?_
  have hG4 := st8b_grown W w.heap.size z0
  exact ⟨rfl, hW0.newSet hG4 (by omega) (by omega) (by omega), grown_new hg0 hG4 (Nat.le_refl _)⟩

end Go.Proofs.YtnalpladieoegaaDoor
