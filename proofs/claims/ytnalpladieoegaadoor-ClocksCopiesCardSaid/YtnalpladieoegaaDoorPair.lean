/- A watch's Thread and Place; where two clocks of it lie; the merge of one into another. Asked: the watch lies. -/
import Derived.Test.YtnalpladieoegaaDoorStep
import Derived.Test.YtnalpladieoegaaDoorFoldC2
import Derived.LaidEqlPtr
namespace Go.Proofs.YtnalpladieoegaaDoor
open Go.RowKit Go.Shelf

set_option maxHeartbeats 2000000 in
theorem thread_in {w : World} {p tb pb : Nat} {th pl : List Ck} (hW : Wt w p tb pb th pl) {i : Nat} (hi : i < th.length) (hn : th.length ≤ 65536) (ht : 0 < th.length) :
    Calls Tryd.prog 34 #[.pointer (some ⟨p, 0, none⟩), .int .i64 (i : Int)] w fun e w' => e = .returned (.tuple #[.agg (cl (at_ th i)), .int .i64 0]) ∧ Wt w' p tb pb th pl ∧ w.grownBy w' none := by
  have hW0 := hW.kept (grown_alloc w (.cells (cl z0) 23))
  have hr := Blk.new w 23 z0
  have hg0 := grown_alloc w (.cells (cl z0) 23)
  have l1 := hW.ptl
  have l2 := hW.tc.lt
  have l3 := hW.pc.lt
  go_enter Tryd.func34, Tryd.ntmps34
  go_wp2_with fail
  change Calls _ _ _ (w.alloc (.cells (cl z0) 23)) _
  obtain ⟨W, hWW⟩ : ∃ W, w.alloc (.cells (cl z0) 23) = W := ⟨_, rfl⟩
  rw [hWW] at hW0 hr hg0 ⊢
  clear hWW
  refine (there_any hW0 ht).mono ?_
  rintro e w' ⟨rfl, rfl⟩
  have q0 := hW0.c0
  go_wp2_with fail
  refine (find_in W tb th.length i hi (by omega)).mono ?_
  rintro e w' ⟨rfl, rfl⟩
  clear q0
  have x0 := hW0.tc.cell (j := 0) hi (by decide)
  rw [Nat.add_zero] at x0
  have x1 := hW0.tc.cell (j := 1) hi (by decide)
  have x2 := hW0.tc.cell (j := 2) hi (by decide)
  have x3 := hW0.tc.cell (j := 3) hi (by decide)
  have x4 := hW0.tc.cell (j := 4) hi (by decide)
  have x5 := hW0.tc.cell (j := 5) hi (by decide)
  have x6 := hW0.tc.cell (j := 6) hi (by decide)
  have x7 := hW0.tc.cell (j := 7) hi (by decide)
  have y0 := hr.cell (k := 0) (by decide)
  have y1 := hr.cell (k := 1) (by decide)
  have y2 := hr.cell (k := 2) (by decide)
  have y3 := hr.cell (k := 3) (by decide)
  have y4 := hr.cell (k := 4) (by decide)
  have y5 := hr.cell (k := 5) (by decide)
  have y6 := hr.cell (k := 6) (by decide)
  have y7 := hr.cell (k := 7) (by decide)
  have f0 := hr.frozen 0
  have f1 := hr.frozen 1
  have f2 := hr.frozen 2
  have f3 := hr.frozen 3
  have f4 := hr.frozen 4
  have f5 := hr.frozen 5
  have f6 := hr.frozen 6
  have f7 := hr.frozen 7
  go_wp2
  refine end_c23t (c := at_ th i) (v := .int .i64 0) (hr.set8 (at_ th i)) rfl rfl rfl rfl ?_
  have hG4 := st8b_grown W w.heap.size (at_ th i)
  exact ⟨rfl, hW0.newSet hG4 (by omega) (by omega) (by omega), grown_new hg0 hG4 (Nat.le_refl _)⟩

set_option maxHeartbeats 2000000 in
theorem thread_out {w : World} {p tb pb : Nat} {th pl : List Ck} (hW : Wt w p tb pb th pl) {i : Int} (hi : i < 0 ∨ (th.length : Int) ≤ i) (hn : 0 < th.length) :
    Calls Tryd.prog 34 #[.pointer (some ⟨p, 0, none⟩), .int .i64 i] w fun e w' => e = .returned (.tuple #[.agg (cl z0), .int .i64 4]) ∧ Wt w' p tb pb th pl ∧ w.grownBy w' none := by
  have hW0 := hW.kept (grown_alloc w (.cells (cl z0) 23))
  have hr := Blk.new w 23 z0
  have hg0 := grown_alloc w (.cells (cl z0) 23)
  have l1 := hW.ptl
  have l2 := hW.tc.lt
  have l3 := hW.pc.lt
  go_enter Tryd.func34, Tryd.ntmps34
  go_wp2_with fail
  change Calls _ _ _ (w.alloc (.cells (cl z0) 23)) _
  obtain ⟨W, hWW⟩ : ∃ W, w.alloc (.cells (cl z0) 23) = W := ⟨_, rfl⟩
  rw [hWW] at hW0 hr hg0 ⊢
  clear hWW
  refine (there_any hW0 hn).mono ?_
  rintro e w' ⟨rfl, rfl⟩
  have q0 := hW0.c0
  go_wp2_with fail
  refine (find_out W tb th.length i hi).mono ?_
  rintro e w' ⟨rfl, rfl⟩
  clear q0 hi
  have x0 := hr.cell (k := 0) (by decide)
  have x1 := hr.cell (k := 1) (by decide)
  have x2 := hr.cell (k := 2) (by decide)
  have x3 := hr.cell (k := 3) (by decide)
  have x4 := hr.cell (k := 4) (by decide)
  have x5 := hr.cell (k := 5) (by decide)
  have x6 := hr.cell (k := 6) (by decide)
  have x7 := hr.cell (k := 7) (by decide)
  have f0 := hr.frozen 0
  have f1 := hr.frozen 1
  have f2 := hr.frozen 2
  have f3 := hr.frozen 3
  have f4 := hr.frozen 4
  have f5 := hr.frozen 5
  have f6 := hr.frozen 6
  have f7 := hr.frozen 7
  go_wp2
  refine end_c23t (c := z0) (v := .int .i64 4) (hr.set8 z0) rfl rfl rfl rfl ?_
  have hG4 := st8b_grown W w.heap.size z0
  exact ⟨rfl, hW0.newSet hG4 (by omega) (by omega) (by omega), grown_new hg0 hG4 (Nat.le_refl _)⟩

set_option maxHeartbeats 2000000 in
theorem place_in {w : World} {p tb pb : Nat} {th pl : List Ck} (hW : Wt w p tb pb th pl) {i : Nat} (hi : i < pl.length) (hn : pl.length ≤ 65536) (ht : 0 < th.length) :
    Calls Tryd.prog 35 #[.pointer (some ⟨p, 0, none⟩), .int .i64 (i : Int)] w fun e w' => e = .returned (.tuple #[.agg (cl (at_ pl i)), .int .i64 0]) ∧ Wt w' p tb pb th pl ∧ w.grownBy w' none := by
  have hW0 := hW.kept (grown_alloc w (.cells (cl z0) 23))
  have hr := Blk.new w 23 z0
  have hg0 := grown_alloc w (.cells (cl z0) 23)
  have l1 := hW.ptl
  have l2 := hW.tc.lt
  have l3 := hW.pc.lt
  go_enter Tryd.func35, Tryd.ntmps35
  go_wp2_with fail
  change Calls _ _ _ (w.alloc (.cells (cl z0) 23)) _
  obtain ⟨W, hWW⟩ : ∃ W, w.alloc (.cells (cl z0) 23) = W := ⟨_, rfl⟩
  rw [hWW] at hW0 hr hg0 ⊢
  clear hWW
  refine (there_any hW0 ht).mono ?_
  rintro e w' ⟨rfl, rfl⟩
  have q0 := hW0.c1
  go_wp2_with fail
  refine (find_in W pb pl.length i hi (by omega)).mono ?_
  rintro e w' ⟨rfl, rfl⟩
  clear q0
  have x0 := hW0.pc.cell (j := 0) hi (by decide)
  rw [Nat.add_zero] at x0
  have x1 := hW0.pc.cell (j := 1) hi (by decide)
  have x2 := hW0.pc.cell (j := 2) hi (by decide)
  have x3 := hW0.pc.cell (j := 3) hi (by decide)
  have x4 := hW0.pc.cell (j := 4) hi (by decide)
  have x5 := hW0.pc.cell (j := 5) hi (by decide)
  have x6 := hW0.pc.cell (j := 6) hi (by decide)
  have x7 := hW0.pc.cell (j := 7) hi (by decide)
  have y0 := hr.cell (k := 0) (by decide)
  have y1 := hr.cell (k := 1) (by decide)
  have y2 := hr.cell (k := 2) (by decide)
  have y3 := hr.cell (k := 3) (by decide)
  have y4 := hr.cell (k := 4) (by decide)
  have y5 := hr.cell (k := 5) (by decide)
  have y6 := hr.cell (k := 6) (by decide)
  have y7 := hr.cell (k := 7) (by decide)
  have f0 := hr.frozen 0
  have f1 := hr.frozen 1
  have f2 := hr.frozen 2
  have f3 := hr.frozen 3
  have f4 := hr.frozen 4
  have f5 := hr.frozen 5
  have f6 := hr.frozen 6
  have f7 := hr.frozen 7
  go_wp2
  refine end_c23t (c := at_ pl i) (v := .int .i64 0) (hr.set8 (at_ pl i)) rfl rfl rfl rfl ?_
  have hG4 := st8b_grown W w.heap.size (at_ pl i)
  exact ⟨rfl, hW0.newSet hG4 (by omega) (by omega) (by omega), grown_new hg0 hG4 (Nat.le_refl _)⟩

set_option maxHeartbeats 2000000 in
theorem place_out {w : World} {p tb pb : Nat} {th pl : List Ck} (hW : Wt w p tb pb th pl) {i : Int} (hi : i < 0 ∨ (pl.length : Int) ≤ i) (hn : 0 < th.length) :
    Calls Tryd.prog 35 #[.pointer (some ⟨p, 0, none⟩), .int .i64 i] w fun e w' => e = .returned (.tuple #[.agg (cl z0), .int .i64 4]) ∧ Wt w' p tb pb th pl ∧ w.grownBy w' none := by
  have hW0 := hW.kept (grown_alloc w (.cells (cl z0) 23))
  have hr := Blk.new w 23 z0
  have hg0 := grown_alloc w (.cells (cl z0) 23)
  have l1 := hW.ptl
  have l2 := hW.tc.lt
  have l3 := hW.pc.lt
  go_enter Tryd.func35, Tryd.ntmps35
  go_wp2_with fail
  change Calls _ _ _ (w.alloc (.cells (cl z0) 23)) _
  obtain ⟨W, hWW⟩ : ∃ W, w.alloc (.cells (cl z0) 23) = W := ⟨_, rfl⟩
  rw [hWW] at hW0 hr hg0 ⊢
  clear hWW
  refine (there_any hW0 hn).mono ?_
  rintro e w' ⟨rfl, rfl⟩
  have q0 := hW0.c1
  go_wp2_with fail
  refine (find_out W pb pl.length i hi).mono ?_
  rintro e w' ⟨rfl, rfl⟩
  clear q0 hi
  have x0 := hr.cell (k := 0) (by decide)
  have x1 := hr.cell (k := 1) (by decide)
  have x2 := hr.cell (k := 2) (by decide)
  have x3 := hr.cell (k := 3) (by decide)
  have x4 := hr.cell (k := 4) (by decide)
  have x5 := hr.cell (k := 5) (by decide)
  have x6 := hr.cell (k := 6) (by decide)
  have x7 := hr.cell (k := 7) (by decide)
  have f0 := hr.frozen 0
  have f1 := hr.frozen 1
  have f2 := hr.frozen 2
  have f3 := hr.frozen 3
  have f4 := hr.frozen 4
  have f5 := hr.frozen 5
  have f6 := hr.frozen 6
  have f7 := hr.frozen 7
  go_wp2
  refine end_c23t (c := z0) (v := .int .i64 4) (hr.set8 z0) rfl rfl rfl rfl ?_
  have hG4 := st8b_grown W w.heap.size z0
  exact ⟨rfl, hW0.newSet hG4 (by omega) (by omega) (by omega), grown_new hg0 hG4 (Nat.le_refl _)⟩

set_option maxHeartbeats 2000000 in
theorem pair_true_in {w : World} {p tb pb : Nat} {th pl : List Ck} (hW : Wt w p tb pb th pl) {i j : Nat} (hi : i < th.length) (hj : j < pl.length) (hn : th.length ≤ 8) (_hm : pl.length ≤ 65536) :
    Calls Tryd.prog 58 #[.pointer (some ⟨p, 0, none⟩), .int .i64 (i : Int), .bool true, .int .i64 (j : Int)] w fun e w' => e = .returned (.tuple #[.pointer (some ⟨tb, i * 8, none⟩), .pointer (some ⟨pb, j * 8, none⟩), .int .i64 0]) ∧ w = w' := by
  have q0 := hW.c0
  have q1 := hW.c1
  go_enter Tryd.func58, Tryd.ntmps58
  go_wp2_with fail
  refine (there_any hW (by omega)).mono ?_
  rintro e w' ⟨rfl, rfl⟩
  go_wp2_with fail
  refine (find_in w tb th.length i hi (by omega)).mono ?_
  rintro e w' ⟨rfl, rfl⟩
  go_wp2_with fail
  refine (find_in w pb pl.length j hj (by omega)).mono ?_
  rintro e w' ⟨rfl, rfl⟩
  go_wp2
  go_ret3
  exact ⟨rfl, rfl⟩

set_option maxHeartbeats 2000000 in
theorem pair_true_out {w : World} {p tb pb : Nat} {th pl : List Ck} (hW : Wt w p tb pb th pl) {i : Nat} {j : Int} (hi : i < th.length) (hj : j < 0 ∨ (pl.length : Int) ≤ j) (hn : th.length ≤ 8) :
    Calls Tryd.prog 58 #[.pointer (some ⟨p, 0, none⟩), .int .i64 (i : Int), .bool true, .int .i64 j] w fun e w' => e = .returned (.tuple #[.pointer (some ⟨tb, i * 8, none⟩), .pointer none, .int .i64 4]) ∧ w = w' := by
  have q0 := hW.c0
  have q1 := hW.c1
  have HJ := Lib.hid hj
  clear hj
  go_enter Tryd.func58, Tryd.ntmps58
  go_wp2_with fail
  refine (there_any hW (by omega)).mono ?_
  rintro e w' ⟨rfl, rfl⟩
  go_wp2_with fail
  refine (find_in w tb th.length i hi (by omega)).mono ?_
  rintro e w' ⟨rfl, rfl⟩
  go_wp2_with fail
  refine (find_out w pb pl.length j HJ.out).mono ?_
  rintro e w' ⟨rfl, rfl⟩
  go_wp2
  go_ret3
  exact ⟨rfl, rfl⟩

set_option maxHeartbeats 2000000 in
theorem pair_true_no {w : World} {p tb pb : Nat} {th pl : List Ck} (hW : Wt w p tb pb th pl) {i : Int} (j : Int) (hi : i < 0 ∨ (th.length : Int) ≤ i) (hn : 0 < th.length) :
    Calls Tryd.prog 58 #[.pointer (some ⟨p, 0, none⟩), .int .i64 i, .bool true, .int .i64 j] w fun e w' => e = .returned (.tuple #[.pointer none, .pointer none, .int .i64 4]) ∧ w = w' := by
  have q0 := hW.c0
  have q1 := hW.c1
  have HJ := Lib.hid hi
  clear hi
  go_enter Tryd.func58, Tryd.ntmps58
  go_wp2_with fail
  refine (there_any hW hn).mono ?_
  rintro e w' ⟨rfl, rfl⟩
  go_wp2_with fail
  refine (find_out w tb th.length i HJ.out).mono ?_
  rintro e w' ⟨rfl, rfl⟩
  go_wp2
  go_ret3
  exact ⟨rfl, rfl⟩

set_option maxHeartbeats 2000000 in
theorem pair_false_in {w : World} {p tb pb : Nat} {th pl : List Ck} (hW : Wt w p tb pb th pl) {i j : Nat} (hi : i < th.length) (hj : j < th.length) (hn : th.length ≤ 8) (_hm : pl.length ≤ 65536) :
    Calls Tryd.prog 58 #[.pointer (some ⟨p, 0, none⟩), .int .i64 (i : Int), .bool false, .int .i64 (j : Int)] w fun e w' => e = .returned (.tuple #[.pointer (some ⟨tb, i * 8, none⟩), .pointer (some ⟨tb, j * 8, none⟩), .int .i64 0]) ∧ w = w' := by
  have q0 := hW.c0
  have q1 := hW.c1
  go_enter Tryd.func58, Tryd.ntmps58
  go_wp2_with fail
  refine (there_any hW (by omega)).mono ?_
  rintro e w' ⟨rfl, rfl⟩
  go_wp2_with fail
  refine (find_in w tb th.length i hi (by omega)).mono ?_
  rintro e w' ⟨rfl, rfl⟩
  go_wp2_with fail
  refine (find_in w tb th.length j hj (by omega)).mono ?_
  rintro e w' ⟨rfl, rfl⟩
  go_wp2
  go_ret3
  exact ⟨rfl, rfl⟩

set_option maxHeartbeats 2000000 in
theorem pair_false_out {w : World} {p tb pb : Nat} {th pl : List Ck} (hW : Wt w p tb pb th pl) {i : Nat} {j : Int} (hi : i < th.length) (hj : j < 0 ∨ (th.length : Int) ≤ j) (hn : th.length ≤ 8) :
    Calls Tryd.prog 58 #[.pointer (some ⟨p, 0, none⟩), .int .i64 (i : Int), .bool false, .int .i64 j] w fun e w' => e = .returned (.tuple #[.pointer (some ⟨tb, i * 8, none⟩), .pointer none, .int .i64 4]) ∧ w = w' := by
  have q0 := hW.c0
  have q1 := hW.c1
  have HJ := Lib.hid hj
  clear hj
  go_enter Tryd.func58, Tryd.ntmps58
  go_wp2_with fail
  refine (there_any hW (by omega)).mono ?_
  rintro e w' ⟨rfl, rfl⟩
  go_wp2_with fail
  refine (find_in w tb th.length i hi (by omega)).mono ?_
  rintro e w' ⟨rfl, rfl⟩
  go_wp2_with fail
  refine (find_out w tb th.length j HJ.out).mono ?_
  rintro e w' ⟨rfl, rfl⟩
  go_wp2
  go_ret3
  exact ⟨rfl, rfl⟩

set_option maxHeartbeats 2000000 in
theorem pair_false_no {w : World} {p tb pb : Nat} {th pl : List Ck} (hW : Wt w p tb pb th pl) {i : Int} (j : Int) (hi : i < 0 ∨ (th.length : Int) ≤ i) (hn : 0 < th.length) :
    Calls Tryd.prog 58 #[.pointer (some ⟨p, 0, none⟩), .int .i64 i, .bool false, .int .i64 j] w fun e w' => e = .returned (.tuple #[.pointer none, .pointer none, .int .i64 4]) ∧ w = w' := by
  have q0 := hW.c0
  have q1 := hW.c1
  have HJ := Lib.hid hi
  clear hi
  go_enter Tryd.func58, Tryd.ntmps58
  go_wp2_with fail
  refine (there_any hW hn).mono ?_
  rintro e w' ⟨rfl, rfl⟩
  go_wp2_with fail
  refine (find_out w tb th.length i HJ.out).mono ?_
  rintro e w' ⟨rfl, rfl⟩
  go_wp2
  go_ret3
  exact ⟨rfl, rfl⟩

theorem info68 : (Tryd.prog.info? 68).map (fun i => (i.zero, i.size, i.bytes)) = some (some (.agg (cl z0)), 8, 64) := by kernel_rfl
theorem neq85_other {w : World} {a b : Addr} {ca cb : Array Value} {ta tb : TypeId} (hne : a ≠ b) (ha : w.heap[a.block]? = some (.cells ca ta (0, 0))) (hb : w.heap[b.block]? = some (.cells cb tb (0, 0))) :
    (binOp .neq 85 (.pointer (some a)) (.pointer (some b))).run Tryd.prog w = .ok (.bool true) w := by
  obtain ⟨j, hj, _, hs, _⟩ := info_parts info68
  have h : ∀ d : Nat, (Op.equalIn (d + 1) 85 (.pointer (some a)) (.pointer (some b))).run Tryd.prog w = .ok false w := fun d => by
    simp [Op.equalIn, run_underlying Tryd.underlying85, sizeOf, typeInfo, hj, hs, run_sameAddr_other w hne ha hb]
  simp only [binOp]
  simp [Op.equal, Op.maxDepth, h 9999]
theorem neq85_same (w : World) (a : Addr) : (binOp .neq 85 (.pointer (some a)) (.pointer (some a))).run Tryd.prog w = .ok (.bool false) w := by
  obtain ⟨j, hj, _, _, _⟩ := info_parts info68
  have h : ∀ d : Nat, (Op.equalIn (d + 1) 85 (.pointer (some a)) (.pointer (some a))).run Tryd.prog w = .ok true w := fun d => by
    simp [Op.equalIn, run_underlying Tryd.underlying85, sizeOf, typeInfo, hj, run_sameAddr_same]
  simp only [binOp]
  simp [Op.equal, Op.maxDepth, h 9999]

set_option maxHeartbeats 400000 in
theorem merge_same (w : World) (b o : Nat) : Calls Tryd.prog 59 #[.pointer (some ⟨b, o, none⟩), .pointer (some ⟨b, o, none⟩)] w fun e w' => e = .returned (.tuple #[]) ∧ w = w' := by
  have hn := neq85_same w ⟨b, o, none⟩
  go_enter Tryd.func59, Tryd.ntmps59
  go_wp2
  go_end0
  exact ⟨rfl, rfl⟩

set_option maxHeartbeats 2000000 in
theorem merge_any {w : World} {b1 o1 b2 o2 : Nat} {d c : Ck} {ca cb : Array Value} {ta tb : TypeId} (h1 : ∀ k, k < 8 → w.cell? ⟨b1, o1 + k, none⟩ = some (.int .i64 (d k))) (h2 : ∀ k, k < 8 → w.cell? ⟨b2, o2 + k, none⟩ = some (.int .i64 (c k)))
    (r1 : w.heap[b1]? = some (.cells ca ta (0, 0))) (r2 : w.heap[b2]? = some (.cells cb tb (0, 0))) (hne : ¬ (b1 = b2 ∧ o1 = o2)) :
    Calls Tryd.prog 59 #[.pointer (some ⟨b1, o1, none⟩), .pointer (some ⟨b2, o2, none⟩)] w fun e w' => e = .returned (.tuple #[]) ∧ ∃ w1, Below w.heap.size w w1 ∧ w' = st8 w1 b1 o1 (jn d c) := by
  have hmx : Tryd.prog.follows .mixedOrders = true := by kernel_rfl
  have hn := neq85_other (w := w) (a := ⟨b1, o1, none⟩) (b := ⟨b2, o2, none⟩) (fun e => hne (by cases e; exact ⟨rfl, rfl⟩)) r1 r2
  have HS : Hid ((∀ k, k < 8 → w.drew.cell? ⟨b1, o1 + k, none⟩ = some (.int .i64 (d k))) ∧ (∀ k, k < 8 → w.drew.cell? ⟨b2, o2 + k, none⟩ = some (.int .i64 (c k)))) := ⟨h1, h2⟩
  have l1 : b1 < w.heap.size := (Array.getElem?_eq_some_iff.1 r1).1
  have l2 : b2 < w.heap.size := (Array.getElem?_eq_some_iff.1 r2).1
  have hf : ∀ k, w.frozen? ⟨b1, o1 + k, none⟩ = false := fun k => by simp [World.frozen?, r1]
  have HF := Lib.hid hf
  have HD := Lib.hid h1
  have HC := Lib.hid h2
  clear h1 h2 hf hne r1 r2
  go_enter Tryd.func59, Tryd.ntmps59
  go_wp2_with fail
  refine wp_region_x [9] (fun W1 => (∀ k, k < 8 → W1.cell? ⟨b1, o1 + k, none⟩ = some (.int .i64 (d k))) ∧ (∀ k, k < 8 → W1.cell? ⟨b2, o2 + k, none⟩ = some (.int .i64 (c k)))) hmx ?_
  refine wpX_take 0 (v := ?v0) rfl (by kernel_rfl) (by kernel_rfl) (by kernel_rfl) (by kernel_rfl) (fun _ _ _ h => h) HS.out (Or.inl ⟨by rfl, ?h0⟩) ?_
  case h0 =>
    intro W1 hS1
    obtain ⟨s1, s2⟩ := hS1
    clear s1 s2
    go_simp
    with_reducible rfl
  refine wpX_take 1 (v := ?v1) rfl (by kernel_rfl) (by kernel_rfl) (by kernel_rfl) (by kernel_rfl) (fun _ _ _ h => h) HS.out (Or.inl ⟨by rfl, ?h1⟩) ?_
  case h1 =>
    intro W1 hS1
    obtain ⟨s1, s2⟩ := hS1
    clear s1 s2
    go_simp
    with_reducible rfl
  refine wpX_take 2 (v := ?v2) rfl (by kernel_rfl) (by kernel_rfl) (by kernel_rfl) (by kernel_rfl) (fun _ _ _ h => h) HS.out (Or.inl ⟨by rfl, ?h2⟩) ?_
  case h2 =>
    intro W1 hS1
    obtain ⟨s1, s2⟩ := hS1
    clear s1 s2
    go_simp
    with_reducible rfl
  refine wpX_take 3 (v := ?v3) rfl (by kernel_rfl) (by kernel_rfl) (by kernel_rfl) (by kernel_rfl) (fun _ _ _ h => h) HS.out (Or.inl ⟨by rfl, ?h3⟩) ?_
  case h3 =>
    intro W1 hS1
    obtain ⟨s1, s2⟩ := hS1
    have x0 := s1 0 (by decide)
    rw [Nat.add_zero] at x0
    have x1 := s1 1 (by decide)
    have x2 := s1 2 (by decide)
    have x3 := s1 3 (by decide)
    have x4 := s1 4 (by decide)
    have x5 := s1 5 (by decide)
    have x6 := s1 6 (by decide)
    have x7 := s1 7 (by decide)
    clear s1 s2
    go_simp
    with_reducible rfl
  refine wpX_take 4 (v := ?v4) rfl (by kernel_rfl) (by kernel_rfl) (by kernel_rfl) (by kernel_rfl) (fun _ _ _ h => h) HS.out (Or.inl ⟨by rfl, ?h4⟩) ?_
  case h4 =>
    intro W1 hS1
    obtain ⟨s1, s2⟩ := hS1
    clear s1 s2
    go_simp
    with_reducible rfl
  refine wpX_take 5 (v := ?v5) rfl (by kernel_rfl) (by kernel_rfl) (by kernel_rfl) (by kernel_rfl) (fun _ _ _ h => h) HS.out (Or.inl ⟨by rfl, ?h5⟩) ?_
  case h5 =>
    intro W1 hS1
    obtain ⟨s1, s2⟩ := hS1
    clear s1 s2
    go_simp
    with_reducible rfl
  refine wpX_take 6 (v := ?v6) rfl (by kernel_rfl) (by kernel_rfl) (by kernel_rfl) (by kernel_rfl) (fun _ _ _ h => h) HS.out (Or.inl ⟨by rfl, ?h6⟩) ?_
  case h6 =>
    intro W1 hS1
    obtain ⟨s1, s2⟩ := hS1
    have x0 := s2 0 (by decide)
    rw [Nat.add_zero] at x0
    have x1 := s2 1 (by decide)
    have x2 := s2 2 (by decide)
    have x3 := s2 3 (by decide)
    have x4 := s2 4 (by decide)
    have x5 := s2 5 (by decide)
    have x6 := s2 6 (by decide)
    have x7 := s2 7 (by decide)
    clear s1 s2
    go_simp
    with_reducible rfl
  refine wpX_one 7 (by kernel_rfl) rfl (fun K hK => ?_)
  go_simp
  refine (join_any d c _).mono ?_
  rintro e w1 ⟨rfl, hb⟩
  have hb' : Below w.heap.size w w1 := (Below.refl w.heap.size w).drew.trans hb
  have HD1 : Hid (∀ k, k < 8 → w1.cell? ⟨b1, o1 + k, none⟩ = some (.int .i64 (d k))) := fun k hk => (hb'.cell (p := ⟨b1, o1 + k, none⟩) l1).trans (HD.out k hk)
  have HC1 : Hid (∀ k, k < 8 → w1.cell? ⟨b2, o2 + k, none⟩ = some (.int .i64 (c k))) := fun k hk => (hb'.cell (p := ⟨b2, o2 + k, none⟩) l2).trans (HC.out k hk)
  have HF1 : Hid (∀ k, w1.frozen? ⟨b1, o1 + k, none⟩ = false) := fun k => (hb'.frozen (p := ⟨b1, o1 + k, none⟩) l1).trans (HF.out k)
  refine hK _ _ (fun _ => ⟨HD1.out, HC1.out⟩) ?_
  clear hK K hn
  refine wpX_take 8 (v := ?v8) rfl (by kernel_rfl) (by kernel_rfl) (by kernel_rfl) (by kernel_rfl) (fun _ _ _ h => h) ⟨HD1.out, HC1.out⟩ (Or.inl ⟨by rfl, ?h8⟩) ?_
  case h8 =>
    intro W1 hS1
    clear hS1
    go_simp
    with_reducible rfl
  refine wpX_one 9 (by kernel_rfl) rfl (fun K hK => ?_)
  have x0 := HD1.out 0 (by decide)
  rw [Nat.add_zero] at x0
  have x1 := HD1.out 1 (by decide)
  have x2 := HD1.out 2 (by decide)
  have x3 := HD1.out 3 (by decide)
  have x4 := HD1.out 4 (by decide)
  have x5 := HD1.out 5 (by decide)
  have x6 := HD1.out 6 (by decide)
  have x7 := HD1.out 7 (by decide)
  have f0 := HF1.out 0
  rw [Nat.add_zero] at f0
  have f1 := HF1.out 1
  have f2 := HF1.out 2
  have f3 := HF1.out 3
  have f4 := HF1.out 4
  have f5 := HF1.out 5
  have f6 := HF1.out 6
  have f7 := HF1.out 7
  go_simp
  refine hK _ _ (fun h => by cases h) ?_
  clear hK K
  refine wpX_done (by kernel_rfl) ?_ _
  go_wp2
  go_end0
  exact ⟨rfl, w1, hb', rfl⟩
end Go.Proofs.YtnalpladieoegaaDoor
