/- Text, of 'wait 200 0'. Asked: the tables of codes and of powers of ten. -/
import Derived.Test.YtjbinejaagpleaaDoorShelf
import Derived.Test.YtjbinejaagpleaaDoorHeld
import Derived.Lib.ItoaLen
import Derived.Lib.LaidTab
namespace Go.Proofs.YtjbinejaagpleaaDoor
open Go.RowKit Go.Shelf

/-- The table of powers of ten lies as laid. -/
def Tab (w : World) : Prop := Lib.TabIs Tryd.prog w "internal/strconv.uint64pow10" .u64 Lib.pow10Tab
theorem gPow : Tryd.prog.globalNamed "internal/strconv.uint64pow10" = some 1 := by kernel_rfl
theorem Tab.below {B : Nat} {w w' : World} (h : Tab w) (hb : Below B w w') (h0 : 1 < B) : Tab w' := var?_below hb gPow h0 h
theorem grow_below (w : World) (k : Nat) (os : Array Obj) : Below w.heap.size w (Sort.grow (w.drewN k) os) :=
  ⟨rfl, rfl, rfl, by simp [Sort.grow, World.drewN], fun i hi => by
    show (w.heap ++ os)[i]? = _
    rw [Array.getElem?_append_left hi]⟩
theorem itoa_any (n : Int) (h0 : -9223372036854775808 ≤ n) (h1 : n ≤ 9223372036854775807) (w : World) (ht : Tab w) :
    Calls Tryd.prog 49 #[.int .i64 n] w fun e w' => e = .returned (.string ⟨(Lib.itoa n).toArray⟩) ∧ Below w.heap.size w w' :=
  (Tryd.strconv_Itoa n h0 h1 w ht).mono fun _ _ ⟨he, k, os, hw⟩ => ⟨he, by rw [hw]; exact grow_below w k os⟩
theorem itoa_200 : Lib.itoa 200 = [50, 48, 48] := by
  unfold Lib.itoa
  rw [if_neg (by decide)]
  rw [show (200 : Int).toNat = 200 from rfl, Lib.decDigits, Lib.decDigits, Lib.decDigits]
  rfl
theorem itoa_0 : Lib.itoa 0 = [48] := by
  unfold Lib.itoa
  rw [if_neg (by decide)]
  rw [show (0 : Int).toNat = 0 from rfl, Lib.decDigits]
  rfl
def waitT : ByteArray := ⟨#[119, 97, 105, 116, 32, 50, 48, 48, 32, 48]⟩
set_option maxRecDepth 100000 in
set_option maxHeartbeats 4000000 in
theorem text_wait (w : World) (hT : TabC w) (ht : Tab w) (h1 : 1 < w.heap.size) : Calls Tryd.prog 18 #[.agg #[.int .i64 26, .int .i64 200, .int .i64 0, .int .i64 0]] w fun e w' => e = .returned (.tuple #[.string waitT, .int .i64 0]) ∧ Below w.heap.size w w' := by
  have i200 := fun w ht => itoa_any 200 (by omega) (by omega) w ht
  have i0 := fun w ht => itoa_any 0 (by omega) (by omega) w ht
  rw [itoa_200] at i200
  rw [itoa_0] at i0
  have hB0 : Below w.heap.size w (w.alloc (.cells #[.int .i64 26, .int .i64 200, .int .i64 0, .int .i64 0] 48)) := (Below.refl _ w).alloc (Nat.le_refl _) _
  have hx0 : (w.alloc (.cells #[.int .i64 26, .int .i64 200, .int .i64 0, .int .i64 0] 48)).heap[w.heap.size]? = some (.cells #[.int .i64 26, .int .i64 200, .int .i64 0, .int .i64 0] 48 (0, 0)) := World.alloc_heap_new _ _
  have hz0 : (w.alloc (.cells #[.int .i64 26, .int .i64 200, .int .i64 0, .int .i64 0] 48)).heap.size = w.heap.size + 1 := by simp
  obtain ⟨W0, hW0⟩ : ∃ W0, w.alloc (.cells #[.int .i64 26, .int .i64 200, .int .i64 0, .int .i64 0] 48) = W0 := ⟨_, rfl⟩
  have HW0 := Lib.hid hW0
  rw [hW0] at hB0 hx0 hz0
  clear hW0
  have c0 := cell_blk (k := 0) hx0 rfl
  have c1 := cell_blk (k := 1) hx0 rfl
  have c2 := cell_blk (k := 2) hx0 rfl
  have c3 := cell_blk (k := 3) hx0 rfl
  have cm := insMay_any ⟨26, 200, 0, 0⟩ W0 (hT.below hB0 hT.1)
  rw [show iMay ⟨26, 200, 0, 0⟩ = true from by decide] at cm
  have cf := fun w hT => formOf_any 26 w hT
  unfold FPost at cf
  rw [show nm 26 = ⟨#[119, 97, 105, 116]⟩ from rfl, show fA 26 = true from rfl, show fB 26 = true from rfl, show fN 26 = false from rfl, show isC 26 = true from rfl] at cf
  go_enter Tryd.func18, Tryd.ntmps18
  go_wp2_with fail
  rw [HW0.out]
  refine cm.mono ?_
  rintro e W1 ⟨rfl, hb1⟩
  have hB1 := hB0.trans (hb1.mono hB0.size)
  have hx1 := (hb1.block _ (by omega)).trans hx0
  clear c0 c1 c2 c3 cm
  have c0 := cell_blk (k := 0) hx1 rfl
  have c1 := cell_blk (k := 1) hx1 rfl
  have c2 := cell_blk (k := 2) hx1 rfl
  have c3 := cell_blk (k := 3) hx1 rfl
  go_wp2_with fail
  refine (cf W1 (hT.below hB1 hT.1)).mono ?_
  rintro e W2 ⟨rfl, hb2⟩
  have hB2 := hB1.trans (hb2.mono hB1.size)
  have hx2 := (hb2.block _ (by have := hb1.size; omega)).trans hx1
  have hz2 : w.heap.size + 1 ≤ W2.heap.size := by have := hb1.size; have := hb2.size; omega
  clear c0 c1 c2 c3 cf
  have hB3 : Below w.heap.size w (W2.alloc (.cells #[.string ⟨#[119, 97, 105, 116]⟩, .bool true, .bool true, .bool false] 86)) := hB2.alloc hB2.size _
  have hx3 : (W2.alloc (.cells #[.string ⟨#[119, 97, 105, 116]⟩, .bool true, .bool true, .bool false] 86)).heap[w.heap.size]? = _ := (Below.heap_alloc _ _ _ (by omega)).trans hx2
  have hy3 : (W2.alloc (.cells #[.string ⟨#[119, 97, 105, 116]⟩, .bool true, .bool true, .bool false] 86)).heap[W2.heap.size]? = some (.cells #[.string ⟨#[119, 97, 105, 116]⟩, .bool true, .bool true, .bool false] 86 (0, 0)) := World.alloc_heap_new _ _
  have hz3 : (W2.alloc (.cells #[.string ⟨#[119, 97, 105, 116]⟩, .bool true, .bool true, .bool false] 86)).heap.size = W2.heap.size + 1 := by simp
  have c0 := cell_blk (k := 0) hx3 rfl
  have c1 := cell_blk (k := 1) hx3 rfl
  have c2 := cell_blk (k := 2) hx3 rfl
  have c3 := cell_blk (k := 3) hx3 rfl
  go_wp2_with fail
  refine (i200 _ (ht.below hB3 h1)).mono ?_
  rintro e W4 ⟨rfl, hb4⟩
  have hB4 := hB3.trans (hb4.mono hB3.size)
  have hx4 := (hb4.block _ (by omega)).trans hx3
  have hy4 := (hb4.block _ (by omega)).trans hy3
  have hz4 : W2.heap.size + 1 ≤ W4.heap.size := by have := hb4.size; omega
  clear c0 c1 c2 c3 hb4 hx3 hy3 hz3 hb1 hb2
  have c0 := cell_blk (k := 0) hx4 rfl
  have c1 := cell_blk (k := 1) hx4 rfl
  have c2 := cell_blk (k := 2) hx4 rfl
  have c3 := cell_blk (k := 3) hx4 rfl
  have d2 := cell_blk (k := 2) hy4 rfl
  have d3 := cell_blk (k := 3) hy4 rfl
  go_wp2_with fail
  refine (i0 _ (ht.below hB4 h1)).mono ?_
  rintro e W5 ⟨rfl, hb5⟩
  have hB5 := hB4.trans (hb5.mono hB4.size)
  have hy5 := (hb5.block _ (by omega)).trans hy4
  clear c0 c1 c2 c3 d2 d3
  have d3 := cell_blk (k := 3) hy5 rfl
  go_wp2_with fail
  exact bodyPost_ret (results_tmp2 rfl _ _ _) rfl ⟨rfl, hB5⟩
end Go.Proofs.YtjbinejaagpleaaDoor
