/- The program's Print of what may be printed, nothing too. No condition but what each law says. -/
import Derived.Test.YtjmlmelcppbefaaGreatDoorT45
import Derived.Lib.UnsafeStr
import Derived.Test.YtjmlmelcppbefaaGreatDoorT46
import Derived.Test.YtjmlmelcppbefaaGreatDoorV1
set_option maxRecDepth 100000
namespace Go.Proofs.YtjmlmelcppbefaaGreatDoor
open Go.RowKit Go.Maps
set_option maxHeartbeats 2000000 in
theorem string_nil (b : Nat) (w : World) (hbk : w.heap[b]? = some (.cells #[.pointer none, .slice none 0 0] 97 (0, 0))) :
  Calls Tryz.prog 45 #[.pointer (some ⟨b, 0, none⟩)] w fun e w' => e = .returned (.string ⟨#[]⟩) ∧ Below w.heap.size w w' := by
 have c1 : w.drew.cell? ⟨b, 1, none⟩ = some (.slice none 0 0) := by
  have : w.drew.heap[b]? = some (.cells #[.pointer none, .slice none 0 0] 97 (0, 0)) := hbk
  rw [Lib.cell_of_heap this]; rfl
 have hSD : (Builtin.unsafeSliceData_ #[41] 148 #[.slice none 0 0]).run Tryz.prog w.drew = .ok (.pointer none) w.drew := Lib.run_unsafeSliceData_nil _ _ _ _ _
 have hUS : (Builtin.unsafeString_ #[148, 3] 9 #[.pointer none, .int .i64 0]).run Tryz.prog w.drew = .ok (.string ⟨#[]⟩) w.drew := Lib.run_unsafeString_none _ _ _ _ _
 have mixed : Tryz.prog.follows .mixedOrders = true := by kernel_rfl
 go_enter Tryz.func45, Tryz.ntmps45
 go_wp2
 go_region_o
 all_goals (go_wp2; go_ret; exact ⟨rfl, (Below.refl _ w).drew⟩)
set_option maxHeartbeats 4000000 in
theorem print_nil {w0 : World} (hSh : Shs w0) (a : Option Addr) (cap : Nat) (hcap : cap ≤ 9223372036854775807) :
  Calls Tryz.prog 21 #[.slice a 0 cap] w0 fun e w' => e = .returned (.tuple #[.string ⟨#[]⟩, .int .i64 0]) ∧ Below w0.heap.size w0 w' := by
 have hck := check_any [] a cap w0 ⟨Nat.zero_le _, hcap⟩ hSh (fun j hj => by cases hj) (fun d hd => by cases hd)
 rw [show desR isName ([] : List De) = true from rfl, if_pos rfl, show ([] : List De).length = 0 from rfl] at hck
 go_enter Tryz.func21, Tryz.ntmps21
 go_wp2_with fail
 refine hck.mono ?_
 rintro e W1 ⟨rfl, hb1⟩
 have hb2 : Below w0.heap.size w0 (W1.alloc (.cells #[.pointer none, .slice none 0 0] 97)) := hb1.alloc hb1.size _
 have hst := string_nil W1.heap.size (W1.alloc (.cells #[.pointer none, .slice none 0 0] 97)) (World.alloc_heap_new _ _)
 have HB := Lib.hid hb2
 clear hck hb2 hb1
 go_wp2_with fail
 generalize W1.alloc (.cells #[.pointer none, .slice none 0 0] 97) = W2 at *
 go_loopg [15] 0 (fun x iv wr => x = 0 ∧ iv = .int .i64 0 ∧ wr = W2)
 case atStart => exact ⟨rfl, rfl, rfl⟩
 case round =>
  obtain ⟨rfl, rfl, rfl⟩ := hrel
  go_wp2_with fail
  refine hst.mono ?_
  rintro e V3 ⟨rfl, hb3⟩
  have hfin := HB.out.trans (hb3.mono HB.out.size)
  clear hst hb3 HB
  go_wp2_with fail
  go_ret2
  exact ⟨rfl, hfin⟩
theorem deT_ne (d : De) : deT d ≠ [] := by
 unfold deT
 repeat' split
 all_goals simp
theorem prT_ne {l : List De} (h : l ≠ []) : prT l ≠ [] := by
 match l, h with
 | d :: r, _ =>
  intro e
  have e2 : deT d ++ prT r = [] := e
  exact deT_ne d (List.append_eq_nil_iff.1 e2).1
theorem print_read {V : World} (hW : Wf V) {l : List De} {a : Option Addr} {cap : Nat} (hroom : Roomy l.length cap) (h : DesL (fun _ => True) V a l) (hR : desR isName l = true) (hlen : (prT l).length ≤ 70368744177664) :
  Calls Tryz.prog 21 #[.slice a l.length cap] V fun e w' => e = .returned (.tuple #[.string (bS (prT l)), .int .i64 0]) ∧ Below V.heap.size V w' := by
 by_cases hne : l = []
 ·subst hne
  exact print_nil hW.h a cap hroom.2
 ·have := print_any hW.env hW.h l a cap hroom h (desR_nb hR) (by omega) (prT_ne hne)
  rw [hR, if_pos rfl, if_pos rfl] at this
  exact this
end Go.Proofs.YtjmlmelcppbefaaGreatDoor
