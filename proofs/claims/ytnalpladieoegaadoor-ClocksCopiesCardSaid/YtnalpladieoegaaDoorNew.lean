/- New: a watch is made. -/
import Derived.Test.YtnalpladieoegaaDoorPair
namespace Go.Proofs.YtnalpladieoegaaDoor
open Go.RowKit Go.Shelf

/-- n clocks whose parts are all 0. -/
def zs (n : Nat) : List Ck := List.replicate n z0
theorem zs_len (n : Nat) : (zs n).length = n := by simp [zs]
theorem zs_at (n : Nat) (i : Nat) : at_ (zs n) i = z0 := by
  unfold at_ zs
  rw [List.getElem?_replicate]
  split <;> rfl
theorem made_flat (n : Nat) : madeCells (Value.agg (cl z0)).cells (n * 8) = (flat (zs n)).toArray := by
  apply Array.ext
  · rw [size_madeCells, List.size_toArray, flat_length, zs_len]
  · intro i h1 h2
    rw [size_madeCells] at h1
    have hq : i / 8 < (zs n).length := by rw [zs_len]; omega
    have h3 := flat_get (zs n) hq (Nat.mod_lt i (by decide : 0 < 8))
    rw [show i / 8 * 8 + i % 8 = i from by omega, zs_at] at h3
    have h4 : (flat (zs n)).toArray[i] = .int .i64 0 := by
      have : (flat (zs n)).toArray[i]? = some (.int .i64 0) := by rw [List.getElem?_toArray]; exact h3
      rw [Array.getElem?_eq_getElem h2] at this
      exact Option.some.inj this
    rw [h4]
    simp only [madeCells, Array.getElem_map, Array.getElem_range]
    have : ∀ k, k < 8 → (Value.agg (cl z0)).cells[k]! = .int .i64 0 := fun k hk => by
      rcases lt8 hk with rfl | rfl | rfl | rfl | rfl | rfl | rfl | rfl <;> rfl
    exact this (i % 8) (Nat.mod_lt _ (by decide))
theorem make80 (n : Nat) (hn : n ≤ 65536) (W : World) : (Instr.makeSlice 80 (.int .i64 (n : Int)) (.int .i64 (n : Int))).run Tryd.prog W = .ok (.slice (some ⟨W.heap.size, 0, none⟩) n n) (W.alloc (.cells (flat (zs n)).toArray 68)) := by
  obtain ⟨j, hj, hz, hs, hb⟩ := info_parts info68
  have h := run_make (P := Tryd.prog) W 80 68 j (.agg (cl z0)) Tryd.underlying80 hj hz .i64 .i64 (n : Int) (n : Int) (by omega) (by omega) (by rw [hb]; omega) (by omega)
  rw [hs] at h
  simp only [Int.toNat_natCast, made_flat] at h
  exact h

/-- What New has made: a watch of n threads and m places, in new memory. -/
def NewPost (n m : Nat) (w : World) (e : Ending) (w' : World) : Prop :=
  ∃ p tb pb, e = .returned (.tuple #[.pointer (some ⟨p, 0, none⟩), .int .i64 0]) ∧ Wt w' p tb pb (zs n) (zs m) ∧ Below w.heap.size w w' ∧ w.heap.size ≤ p ∧ w.heap.size ≤ tb ∧ w.heap.size ≤ pb
theorem new_a (n m : Nat) (w : World) : NewPost n m w (.returned (.tuple #[.pointer (some ⟨w.heap.size + 1 + 1, 0, none⟩), .int .i64 0]))
    (((w.alloc (.cells (flat (zs n)).toArray 68)).alloc (.cells (flat (zs m)).toArray 68)).alloc (.cells #[.slice (some ⟨w.heap.size, 0, none⟩) n n, .slice (some ⟨w.heap.size + 1, 0, none⟩) m m] 82)).drew := by
  refine ⟨w.heap.size + 1 + 1, w.heap.size, w.heap.size + 1, rfl, ⟨?_, ?_, ?_, by omega, by omega, by omega⟩, ((((Below.refl _ w).alloc (Nat.le_refl _) _).alloc (by simp) _).alloc (by simp; omega) _).drew, by omega, by omega, by omega⟩
  · have := World.alloc_heap_new ((w.alloc (.cells (flat (zs n)).toArray 68)).alloc (.cells (flat (zs m)).toArray 68)) (.cells #[.slice (some ⟨w.heap.size, 0, none⟩) n n, .slice (some ⟨w.heap.size + 1, 0, none⟩) m m] 82)
    simp only [World.size_alloc] at this
    rw [zs_len, zs_len]
    exact this
  · have h0 : Row (w.alloc (.cells (flat (zs n)).toArray 68)) w.heap.size 68 (zs n) := World.alloc_heap_new w _
    exact (h0.alloc _).alloc _
  · have h0 : Row ((w.alloc (.cells (flat (zs n)).toArray 68)).alloc (.cells (flat (zs m)).toArray 68)) (w.alloc (.cells (flat (zs n)).toArray 68)).heap.size 68 (zs m) := World.alloc_heap_new _ _
    rw [World.size_alloc] at h0
    exact h0.alloc _
theorem new_b (n m : Nat) (w : World) : NewPost n m w (.returned (.tuple #[.pointer (some ⟨w.heap.size + 1 + 1, 0, none⟩), .int .i64 0]))
    (((w.alloc (.cells (flat (zs m)).toArray 68)).alloc (.cells (flat (zs n)).toArray 68)).alloc (.cells #[.slice (some ⟨w.heap.size + 1, 0, none⟩) n n, .slice (some ⟨w.heap.size, 0, none⟩) m m] 82)).drew := by
  refine ⟨w.heap.size + 1 + 1, w.heap.size + 1, w.heap.size, rfl, ⟨?_, ?_, ?_, by omega, by omega, by omega⟩, ((((Below.refl _ w).alloc (Nat.le_refl _) _).alloc (by simp) _).alloc (by simp; omega) _).drew, by omega, by omega, by omega⟩
  · have := World.alloc_heap_new ((w.alloc (.cells (flat (zs m)).toArray 68)).alloc (.cells (flat (zs n)).toArray 68)) (.cells #[.slice (some ⟨w.heap.size + 1, 0, none⟩) n n, .slice (some ⟨w.heap.size, 0, none⟩) m m] 82)
    simp only [World.size_alloc] at this
    rw [zs_len, zs_len]
    exact this
  · have h0 : Row ((w.alloc (.cells (flat (zs m)).toArray 68)).alloc (.cells (flat (zs n)).toArray 68)) (w.alloc (.cells (flat (zs m)).toArray 68)).heap.size 68 (zs n) := World.alloc_heap_new _ _
    rw [World.size_alloc] at h0
    exact h0.alloc _
  · have h0 : Row (w.alloc (.cells (flat (zs m)).toArray 68)) w.heap.size 68 (zs m) := World.alloc_heap_new w _
    exact (h0.alloc _).alloc _

set_option maxHeartbeats 2000000 in
theorem new_in (n m : Nat) (w : World) (hn : 1 ≤ n) (hn8 : n ≤ 8) (hm : m ≤ 65536) : Calls Tryd.prog 26 #[.int .i64 (n : Int), .int .i64 (m : Int)] w (NewPost n m w) := by
  have hk1 := fun W => make80 n (by omega) W
  have hk2 := fun W => make80 m hm W
  go_enter Tryd.func26, Tryd.ntmps26
  go_wp2
  go_region
  all_goals go_wp2
  · go_ret2
    exact new_a n m w
  · go_ret2
    exact new_b n m w

set_option maxHeartbeats 2000000 in
theorem new_out (n m : Int) (w : World) (h : n < 1 ∨ 8 < n ∨ m < 0 ∨ 65536 < m) : Calls Tryd.prog 26 #[.int .i64 n, .int .i64 m] w fun e w' => e = .returned (.tuple #[.pointer none, .int .i64 2]) ∧ w = w' := by
  by_cases h1 : n < 1
  · clear h
    go_enter Tryd.func26, Tryd.ntmps26
    go_wp2
    go_ret2
    exact ⟨rfl, rfl⟩
  · by_cases h2 : 8 < n
    · clear h
      go_enter Tryd.func26, Tryd.ntmps26
      go_wp2
      go_ret2
      exact ⟨rfl, rfl⟩
    · by_cases h3 : m < 0
      · clear h
        go_enter Tryd.func26, Tryd.ntmps26
        go_wp2
        go_ret2
        exact ⟨rfl, rfl⟩
      · have h4 : 65536 < m := by omega
        clear h
        go_enter Tryd.func26, Tryd.ntmps26
        go_wp2
        go_ret2
        exact ⟨rfl, rfl⟩
end Go.Proofs.YtnalpladieoegaaDoor
