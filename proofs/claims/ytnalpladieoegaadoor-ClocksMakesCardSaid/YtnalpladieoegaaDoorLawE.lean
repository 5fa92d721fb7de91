/- The law on which watches there are. Asked: the table of powers of ten is laid. -/
import Derived.Test.YtnalpladieoegaaDoorNil
import Derived.Laws.BitsLemmas
import Derived.Test.YtnalpladieoegaaDoorRefB
import Derived.Test.YtnalpladieoegaaDoorWorks
namespace Go.Proofs.YtnalpladieoegaaDoor
open Go.RowKit Go.Shelf

set_option maxRecDepth 100000 in
set_option maxHeartbeats 4000000 in
theorem makes_out {w : World} {n m : Int} (h : n < 1 ∨ 8 < n ∨ m < 0 ∨ 65536 < m) (ht : Tab w) (h0 : 0 < w.heap.size) :
    Calls Tryd.prog 10 #[.int .i64 n, .int .i64 m] w fun e w' => e = .returned (.bool true) ∧ Below w.heap.size w w' := by
  have c1 := new_out n m w h
  have c2 := rnew_out n m w h
  clear h
  go_enter Tryd.func10, Tryd.ntmps10
  go_wp2_with fail
  refine c1.mono ?_
  rintro e w' ⟨rfl, rfl⟩
  go_wp2_with fail
  refine c2.mono ?_
  rintro e w1 ⟨rfl, hB1⟩
  have hB2 := hB1.alloc hB1.size (.cells #[.slice none 0 0, .slice none 0 0] 41)
  go_wp2_with fail
  refine (step_nil _ 0).mono ?_
  rintro e w2 ⟨rfl, hb⟩
  have hB3 := hB2.trans (hb.mono hB2.size)
  have hB4 := hB3.alloc hB3.size (.cells (cl z0) 23)
  clear hb
  go_wp2_with fail
  refine (thread_nil _ 0).mono ?_
  rintro e w3 ⟨rfl, hb⟩
  have hB5 := hB4.trans (hb.mono hB4.size)
  have hB6 := hB5.alloc hB5.size (.cells (cl z0) 23)
  clear hb
  go_wp2_with fail
  refine (place_nil _ 0).mono ?_
  rintro e w4 ⟨rfl, hb⟩
  have hB7 := hB6.trans (hb.mono hB6.size)
  have hB8 := hB7.alloc hB7.size (.cells (cl z0) 23)
  clear hb hB1 hB2 hB3 hB4 hB5 hB6 hB7 c1 c2
  go_wp2_with (first
    | (go_at_call 14; refine (num_any _ _).mono ?_; rintro e w' ⟨rfl, rfl⟩)
    | (go_at_call 36; refine (give_nil _ _ _).mono ?_; rintro e w' ⟨rfl, rfl⟩)
    | (go_at_call 37; refine (take_nil _ _ _).mono ?_; rintro e w' ⟨rfl, rfl⟩)
    | (go_at_call 38; refine (spawn_nil _ _ _).mono ?_; rintro e w' ⟨rfl, rfl⟩)
    | (go_at_call 39; refine (meet_nil _ _ _).mono ?_; rintro e w' ⟨rfl, rfl⟩)
    | (go_at_call 32; refine (copy_nil _).mono ?_; rintro e w' ⟨rfl, rfl⟩)
    | (go_at_call 40; refine (same_nil_nil _).mono ?_; rintro e w' ⟨rfl, rfl⟩))
  refine (works_any _ (ht.below hB8 h0) (by have := hB8.size; omega)).mono ?_
  rintro e w5 ⟨rfl, hb⟩
  go_wp2
  go_ret
  exact ⟨rfl, hB8.trans (hb.mono hB8.size)⟩

theorem below_none {w w' : World} (h : w.grownBy w' none) : Below w.heap.size w w' := ⟨h.os, h.tape, h.output, h.size, fun k hk => h.block k hk (by simp)⟩

set_option maxRecDepth 100000 in
set_option maxHeartbeats 4000000 in
theorem makes_in {w : World} {n m : Nat} (hn : 1 ≤ n) (hn8 : n ≤ 8) (hm : m ≤ 65536) (ht : Tab w) (h0 : 0 < w.heap.size) :
    Calls Tryd.prog 10 #[.int .i64 (n : Int), .int .i64 (m : Int)] w fun e w' => e = .returned (.bool true) ∧ Below w.heap.size w w' := by
  have hsub : IntKind.i64.wrap ((n : Int) - 1) = ((n - 1 : Nat) : Int) := by
    rw [show (n : Int) - 1 = ((n - 1 : Nat) : Int) by omega]
    rw [IntKind.wrap_i64]
    omega
  have heq : ∀ w, (Op.equalIn 10000 23 (.agg (cl z0)) (.agg #[.int .i64 0, .int .i64 0, .int .i64 0, .int .i64 0, .int .i64 0, .int .i64 0, .int .i64 0, .int .i64 0])).run Tryd.prog w = .ok true w := fun w => eqc_run Tryd.underlying23 z0 z0 w
  have heq2 : ∀ w, (Op.equalIn 10000 23 (.agg #[.int .i64 0, .int .i64 0, .int .i64 0, .int .i64 0, .int .i64 0, .int .i64 0, .int .i64 0, .int .i64 0]) (.agg #[.int .i64 0, .int .i64 0, .int .i64 0, .int .i64 0, .int .i64 0, .int .i64 0, .int .i64 0, .int .i64 0])).run Tryd.prog w = .ok true w := fun w => eqc_run Tryd.underlying23 z0 z0 w
  go_enter Tryd.func10, Tryd.ntmps10
  go_wp2_with fail
  refine (new_in n m w hn hn8 hm).mono ?_
  rintro e w1 ⟨p, tb, pb, rfl, hW1, hB1, _, _, _⟩
  go_wp2_with fail
  refine (rnew_in n m w1 hn hn8 hm).mono ?_
  rintro e w2 ⟨g1, g2, rfl, _, _, hb, _, _⟩
  have hB2 := hB1.trans (hb.mono hB1.size)
  have hB3 := hB2.alloc hB2.size (.cells #[.slice (some ⟨g1, 0, none⟩) n n, .slice (some ⟨g2, 0, none⟩) m m] 41)
  have hW3 := (hW1.below hb).kept (grown_alloc w2 (.cells #[.slice (some ⟨g1, 0, none⟩) n n, .slice (some ⟨g2, 0, none⟩) m m] 41))
  clear hb hB1 hB2 hW1
  go_wp2_with fail
  refine (step_nil _ 0).mono ?_
  rintro e w3 ⟨rfl, hb⟩
  have hB4 := hB3.trans (hb.mono hB3.size)
  have hB5 := hB4.alloc hB4.size (.cells (cl z0) 23)
  have hW5 := (hW3.below hb).kept (grown_alloc w3 (.cells (cl z0) 23))
  clear hb hB3 hB4 hW3
  go_wp2_with fail
  refine (thread_nil _ 0).mono ?_
  rintro e w4 ⟨rfl, hb⟩
  have hB6 := hB5.trans (hb.mono hB5.size)
  have hB7 := hB6.alloc hB6.size (.cells (cl z0) 23)
  have hW7 := (hW5.below hb).kept (grown_alloc w4 (.cells (cl z0) 23))
  clear hb hB5 hB6 hW5
  go_wp2_with fail
  refine (place_nil _ 0).mono ?_
  rintro e w5 ⟨rfl, hb⟩
  have hB8 := hB7.trans (hb.mono hB7.size)
  have hB9 := hB8.alloc hB8.size (.cells (cl z0) 23)
  have hW9 := (hW7.below hb).kept (grown_alloc w5 (.cells (cl z0) 23))
  clear hb hB7 hB8 hW7
  have hlen : (zs n).length = n := zs_len n
  have hlenp : (zs m).length = m := zs_len m
  go_wp2_with (first
    | (go_at_call 14; refine (num_any _ _).mono ?_; rintro e w' ⟨rfl, rfl⟩)
    | (go_at_call 36; refine (give_nil _ _ _).mono ?_; rintro e w' ⟨rfl, rfl⟩)
    | (go_at_call 37; refine (take_nil _ _ _).mono ?_; rintro e w' ⟨rfl, rfl⟩)
    | (go_at_call 38; refine (spawn_nil _ _ _).mono ?_; rintro e w' ⟨rfl, rfl⟩)
    | (go_at_call 39; refine (meet_nil _ _ _).mono ?_; rintro e w' ⟨rfl, rfl⟩)
    | (go_at_call 32; refine (copy_nil _).mono ?_; rintro e w' ⟨rfl, rfl⟩)
    | (go_at_call 40; refine (same_nil_nil _).mono ?_; rintro e w' ⟨rfl, rfl⟩))
  refine (thread_out hW9 (i := (n : Int)) (.inr (by rw [hlen]; exact Int.le_refl _)) (by omega)).mono ?_
  rintro e w6 ⟨rfl, hW10, hg⟩
  have hb := below_none hg
  have hB10 := hB9.trans (hb.mono hB9.size)
  have hB11 := hB10.alloc hB10.size (.cells (cl z0) 23)
  have hW11 := hW10.kept (grown_alloc w6 (.cells (cl z0) 23))
  clear hb hg hB9 hB10 hW9 hW10
  go_wp2_with fail
  refine (place_out hW11 (i := (m : Int)) (.inr (by rw [hlenp]; exact Int.le_refl _)) (by omega)).mono ?_
  rintro e w7 ⟨rfl, hW12, hg⟩
  have hb := below_none hg
  have hB12 := hB11.trans (hb.mono hB11.size)
  have hB13 := hB12.alloc hB12.size (.cells (cl z0) 23)
  have hW13 := hW12.kept (grown_alloc w7 (.cells (cl z0) 23))
  clear hb hg hB11 hB12 hW11 hW12
  go_wp2_with fail
  refine (thread_in hW13 (i := n - 1) (by omega) (by omega) (by omega)).mono ?_
  rintro e w8 ⟨rfl, hW14, hg⟩
  rw [zs_at]
  have hb := below_none hg
  have hB14 := hB13.trans (hb.mono hB13.size)
  have hB15 := hB14.alloc hB14.size (.cells (cl z0) 23)
  have hW15 := hW14.kept (grown_alloc w8 (.cells (cl z0) 23))
  have hr := Blk.new w8 23 z0
  clear hb hg hB13 hB14 hW13 hW14
  have x0 := hr.cell (k := 0) (by decide)
  have x1 := hr.cell (k := 1) (by decide)
  have x2 := hr.cell (k := 2) (by decide)
  have x3 := hr.cell (k := 3) (by decide)
  have x4 := hr.cell (k := 4) (by decide)
  have x5 := hr.cell (k := 5) (by decide)
  have x6 := hr.cell (k := 6) (by decide)
  have x7 := hr.cell (k := 7) (by decide)
  have hz : 0 < (zs n).length := by omega
  go_wp2_with (go_at_call 14; refine (num_any _ _).mono ?_; rintro e w' ⟨rfl, rfl⟩)
  refine (same_to_nil hW15 hz).mono ?_
  rintro e w' ⟨rfl, rfl⟩
  go_wp2_with fail
  refine (same_nil hW15 hz).mono ?_
  rintro e w' ⟨rfl, rfl⟩
  go_wp2_with fail
  refine (works_any _ (ht.below hB15 h0) (by have := hB15.size; omega)).mono ?_
  rintro e w9 ⟨rfl, hb⟩
  go_wp2
  go_ret
  exact ⟨rfl, hB15.trans (hb.mono hB15.size)⟩

theorem makes_any {w : World} {n m : Int} (ht : Tab w) (h0 : 0 < w.heap.size) :
    Calls Tryd.prog 10 #[.int .i64 n, .int .i64 m] w fun e w' => e = .returned (.bool true) ∧ Below w.heap.size w w' := by
  by_cases h : n < 1 ∨ 8 < n ∨ m < 0 ∨ 65536 < m
  · exact makes_out h ht h0
  · obtain ⟨n', rfl⟩ : ∃ n' : Nat, n = (n' : Int) := ⟨n.toNat, by omega⟩
    obtain ⟨m', rfl⟩ : ∃ m' : Nat, m = (m' : Int) := ⟨m.toNat, by omega⟩
    exact makes_in (by omega) (by omega) (by omega) ht h0
end Go.Proofs.YtnalpladieoegaaDoor
