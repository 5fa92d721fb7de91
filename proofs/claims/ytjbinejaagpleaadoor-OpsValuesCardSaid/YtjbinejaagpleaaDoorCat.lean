/- What module defers: a reader's giving up is caught. No condition but that the results' boxes lie. -/
import Derived.Test.YtjbinejaagpleaaDoorRcs
import Derived.Defers
import Derived.Recover
namespace Go.Proofs.YtjbinejaagpleaaDoor
open Go.RowKit

theorem ta_nil (w : World) : (Instr.typeAssert .nilIface 20 98 true).run Tryd.prog w = .ok (.tuple #[.agg #[], .bool false]) w := by kernel_rfl
theorem ta_some (w : World) : (Instr.typeAssert (.iface 98 (.agg #[])) 20 98 true).run Tryd.prog w = .ok (.tuple #[.agg #[], .bool true]) w := by kernel_rfl
set_option maxRecDepth 100000 in
theorem catch_idle (p q : Addr) (w : World) :
    CallsD Tryd.prog 54 #[.pointer (some p), .pointer (some q)] .returning w fun e u' w' => e = .returned (.tuple #[]) ∧ u' = .returning ∧ w' = w.alloc (.cells #[] 98) := by
  refine callsD_of_wpS Tryd.func54 rfl fun c₀ cs hu => ?_
  simp only [Tryd.ntmps54, List.size_toArray, List.length_cons, List.length_nil, Nat.reduceAdd, Nat.reduceSub, Array.replicate_succ, Array.replicate_zero, List.push_toArray, List.append_toArray, List.nil_append, List.cons_append]
  apply wpS_seq
  apply wpS_region
  simp [wpOpsS, go_sem, recoverD, hu, Exit.thenS, ta_nil]
  apply wpS_seq
  apply wpS_region
  simp [wpOpsS, go_sem, Exit.thenS]
  refine wpS_cond (t := false) (by simp [Act.eval]) ?_
  simp only [Bool.false_eq_true, if_false]
  refine wpS_of_wp (wp_skip ?_)
  cases c₀
  simp_all [bodyPostS, results, Tryd.f54]
set_option maxRecDepth 100000 in
theorem catch_panicking (m k : Nat) (x0 x1 x2 x5 : Value) (x3 x4 : Int) (y : Bool) (older : List PanicEntry) (w : World) (hm : w.heap[m]? = some (.cells #[x0, x1, x2, .int .i64 x3, .int .i64 x4, x5] 27 (0, 0))) (hk : w.heap[k]? = some (.cells #[.bool y] 4 (0, 0))) :
    CallsD Tryd.prog 54 #[.pointer (some ⟨m, 0, none⟩), .pointer (some ⟨k, 0, none⟩)] (.panicking (noM :: older)) w fun e u' w' => e = .returned (.tuple #[]) ∧ u' = .panicking ({ v := .iface 98 (.agg #[]), recovered := true } :: older) ∧
      w' = (((((((w.alloc (.cells #[] 98)).setCell ⟨m, 0, none⟩ (.slice none 0 0)).setCell ⟨m, 1, none⟩ (.slice none 0 0)).setCell ⟨m, 2, none⟩ (.slice none 0 0)).setCell ⟨m, 3, none⟩ (.int .i64 0)).setCell ⟨m, 4, none⟩ (.int .i64 0)).setCell ⟨m, 5, none⟩ (.slice none 0 0)).setCell ⟨k, 0, none⟩ (.bool false) := by
  have hm' : (w.alloc (.cells #[] 98)).heap[m]? = some (.cells #[x0, x1, x2, .int .i64 x3, .int .i64 x4, x5] 27 (0, 0)) := (Below.heap_alloc w _ m (Array.getElem?_eq_some_iff.1 hm).1).trans hm
  have hk' : (w.alloc (.cells #[] 98)).heap[k]? = some (.cells #[.bool y] 4 (0, 0)) := (Below.heap_alloc w _ k (Array.getElem?_eq_some_iff.1 hk).1).trans hk
  have hmk : k ≠ m := by
    rintro rfl
    rw [hm] at hk
    simp at hk
  refine callsD_of_wpS Tryd.func54 rfl fun c₀ cs hu => ?_
  simp only [Tryd.ntmps54, List.size_toArray, List.length_cons, List.length_nil, Nat.reduceAdd, Nat.reduceSub, Array.replicate_succ, Array.replicate_zero, List.push_toArray, List.append_toArray, List.nil_append, List.cons_append]
  apply wpS_seq
  apply wpS_region
  unfold noM at hu
  simp [wpOpsS, go_sem, recoverD, hu, Exit.thenS, ta_some]
  apply wpS_seq
  apply wpS_region
  simp [wpOpsS, go_sem, Exit.thenS]
  refine wpS_cond (t := true) (by simp [Act.eval]) ?_
  simp only [if_true]
  have c0 : (w.alloc (.cells #[] 98)).cell? ⟨m, 0, none⟩ = some x0 := cell_blk hm' rfl
  have c1 : (w.alloc (.cells #[] 98)).cell? ⟨m, 1, none⟩ = some x1 := cell_blk hm' rfl
  have c2 : (w.alloc (.cells #[] 98)).cell? ⟨m, 2, none⟩ = some x2 := cell_blk hm' rfl
  have c3 : (w.alloc (.cells #[] 98)).cell? ⟨m, 3, none⟩ = some (.int .i64 x3) := cell_blk hm' rfl
  have c4 : (w.alloc (.cells #[] 98)).cell? ⟨m, 4, none⟩ = some (.int .i64 x4) := cell_blk hm' rfl
  have c5 : (w.alloc (.cells #[] 98)).cell? ⟨m, 5, none⟩ = some x5 := cell_blk hm' rfl
  have d0 : (w.alloc (.cells #[] 98)).cell? ⟨k, 0, none⟩ = some (.bool y) := cell_blk hk' rfl
  have f0 : ∀ j, (w.alloc (.cells #[] 98)).frozen? ⟨m, j, none⟩ = false := fun j => froz_blk hm'
  have g0 : (w.alloc (.cells #[] 98)).frozen? ⟨k, 0, none⟩ = false := froz_blk hk'
  generalize hW : w.alloc (.cells #[] 98) = W at *
  refine wpS_of_wp ?_
  go_wp2
  simp [bodyPostS, results, Tryd.f54]
end Go.Proofs.YtjbinejaagpleaaDoor
