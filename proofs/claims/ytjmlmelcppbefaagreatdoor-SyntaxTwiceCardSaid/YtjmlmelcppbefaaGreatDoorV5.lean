/- V5: texts of one kind, one behind the other. No condition but what each law says. -/
import Derived.Test.YtjmlmelcppbefaaGreatDoorT45
import Derived.Lib.UnsafeStr
import Derived.Test.YtjmlmelcppbefaaGreatDoorT46
import Derived.Test.YtjmlmelcppbefaaGreatDoorT38
import Derived.Test.YtjmlmelcppbefaaGreatDoorV4
import Derived.Test.YtjmlmelcppbefaaGreatDoorV1
set_option maxRecDepth 100000
namespace Go.Proofs.YtjmlmelcppbefaaGreatDoor
open Go.RowKit Go.Maps
set_option maxHeartbeats 2000000 in
theorem string_nil (b : Nat) (w : World) (hbk : w.heap[b]? = some (.cells #[.pointer none, .slice none 0 0] 97 (0, 0))) :
  Calls Tryz.prog 45 #[.pointer (some ⟨b, 0, none⟩)] w fun e w' => e = .returned (.string ⟨#[]⟩) ∧ Below w.heap.size w w' := by
 have c1 : w.drew.cell? ⟨b, 1, none⟩ = some (.slice none 0 0) := by
  have : w.drew.heap[b]? = some (.cells #[.pointer none, .slice none 0 0] 97 (0, 0)) := hbk
  rw [Lib.cell_of_heap this]; rfl
 have hSD : (Builtin.unsafeSliceData_ #[41] 148 #[.slice none 0 0]).run Tryz.prog w.drew = .ok (.pointer none) w.drew := Lib.run_unsafeSliceData_nil _ _ _ _ _
 have hUS : (Builtin.unsafeString_ #[148, 3] 9 #[.pointer none, .int .i64 0]).run Tryz.prog w.drew = .ok (.string ⟨#[]⟩) w.drew := Lib.run_unsafeString_none _ _ _ _ _
 have mixed : Tryz.prog.follows .mixedOrders = true := by kernel_rfl
 go_enter Tryz.func45, Tryz.ntmps45
 go_wp2
 go_region_o
 all_goals (go_wp2; go_ret; exact ⟨rfl, (Below.refl _ w).drew⟩)
set_option maxHeartbeats 4000000 in
theorem print_nil {w0 : World} (hSh : Shs w0) (a : Option Addr) (cap : Nat) (hcap : cap ≤ 9223372036854775807) :
  Calls Tryz.prog 21 #[.slice a 0 cap] w0 fun e w' => e = .returned (.tuple #[.string ⟨#[]⟩, .int .i64 0]) ∧ Below w0.heap.size w0 w' := by
 have hck := check_any [] a cap w0 ⟨Nat.zero_le _, hcap⟩ hSh (fun j hj => by cases hj) (fun d hd => by cases hd)
 rw [show desR isName ([] : List De) = true from rfl, if_pos rfl, show ([] : List De).length = 0 from rfl] at hck
 go_enter Tryz.func21, Tryz.ntmps21
 go_wp2_with fail
 refine hck.mono ?_
 rintro e W1 ⟨rfl, hb1⟩
 have hb2 : Below w0.heap.size w0 (W1.alloc (.cells #[.pointer none, .slice none 0 0] 97)) := hb1.alloc hb1.size _
 have hst := string_nil W1.heap.size (W1.alloc (.cells #[.pointer none, .slice none 0 0] 97)) (World.alloc_heap_new _ _)
 have HB := Lib.hid hb2
 clear hck hb2 hb1
 go_wp2_with fail
 generalize W1.alloc (.cells #[.pointer none, .slice none 0 0] 97) = W2 at *
 go_loopg [15] 0 (fun x iv wr => x = 0 ∧ iv = .int .i64 0 ∧ wr = W2)
 case atStart => exact ⟨rfl, rfl, rfl⟩
 case round =>
  obtain ⟨rfl, rfl, rfl⟩ := hrel
  go_wp2_with fail
  refine hst.mono ?_
  rintro e V3 ⟨rfl, hb3⟩
  have hfin := HB.out.trans (hb3.mono HB.out.size)
  clear hst hb3 HB
  go_wp2_with fail
  go_ret2
  exact ⟨rfl, hfin⟩
theorem deT_ne (d : De) : deT d ≠ [] := by
 unfold deT
 repeat' split
 all_goals simp
theorem prT_ne {l : List De} (h : l ≠ []) : prT l ≠ [] := by
 match l, h with
 | d :: r, _ =>
  intro e
  have e2 : deT d ++ prT r = [] := e
  exact deT_ne d (List.append_eq_nil_iff.1 e2).1
theorem print_read {V : World} (hW : Wf V) {l : List De} {a : Option Addr} {cap : Nat} (hroom : Roomy l.length cap) (h : DesL (fun _ => True) V a l) (hR : desR isName l = true) (hlen : (prT l).length ≤ 70368744177664) :
  Calls Tryz.prog 21 #[.slice a l.length cap] V fun e w' => e = .returned (.tuple #[.string (bS (prT l)), .int .i64 0]) ∧ Below V.heap.size V w' := by
 by_cases hne : l = []
 ·subst hne
  exact print_nil hW.h a cap hroom.2
 ·have := print_any hW.env hW.h l a cap hroom h (desR_nb hR) (by omega) (prT_ne hne)
  rw [hR, if_pos rfl, if_pos rfl] at this
  exact this
set_option maxHeartbeats 4000000 in
theorem twice_any (s : ByteArray) (w : World) (hW : Wf w) : Calls Tryz.prog 10 #[.string s] w (Tru w) := by
 by_cases h : 1500 < s.size
 ·have hi : (1500 : Int) < (s.size : Int) := by omega
  go_enter Tryz.func10, Tryz.ntmps10
  go_wp2_with fail
  refine (works_any w hW).mono ?_
  rintro e w1 ⟨rfl, hb1⟩
  go_wp2
  go_ret
  exact ⟨rfl, hb1⟩
 ·have hi : ¬ (1500 : Int) < (s.size : Int) := by omega
  have c1 := parse_any (s ++ ⟨#[10]⟩ ++ s) w hW.e hW.o
  have c2 := fun v => rparse_any (s ++ ⟨#[10]⟩ ++ s) v
  have hmay := read_may (s ++ ⟨#[10]⟩ ++ s)
  have hlen := read_len (s ++ ⟨#[10]⟩ ++ s)
  have hnone := fun h => read_none (s := s ++ ⟨#[10]⟩ ++ s) h
  generalize parseR (s ++ ⟨#[10]⟩ ++ s) = R at c1 c2 hmay hlen hnone
  obtain ⟨l, ⟨x, y⟩, er⟩ := R
  dsimp only at hmay hlen hnone
  have HP := Lib.hid (And.intro hmay (And.intro hlen hnone))
  clear hmay hlen hnone
  go_enter Tryz.func10, Tryz.ntmps10
  go_wp2_with fail
  refine c1.mono ?_
  rintro e w1 ⟨hb1, a, cap, rfl, hroom, hds⟩
  dsimp only at hroom hds ⊢
  clear c1
  have hds1 : DesL (fun _ => True) w1 a l := hds.weak (fun _ _ => trivial)
  have hBA : Below w1.heap.size w1 (w1.alloc (.cells #[.int .i64 x, .int .i64 y] 25)) := (Below.refl _ w1).alloc (Nat.le_refl _) _
  have hB2 := hb1.trans (hBA.mono hb1.size)
  have hds2 := hds1.below hBA
  have HX := Lib.hid (And.intro hB2 hds2)
  clear hb1 hBA hds1 hds hB2 hds2
  go_wp2_with fail
  obtain ⟨hB2, hds2⟩ := HX.out
  clear HX
  change Calls _ _ _ (w1.alloc (.cells #[.int .i64 x, .int .i64 y] 25)) _
  generalize w1.alloc (.cells #[.int .i64 x, .int .i64 y] 25) = wA at *
  refine (c2 _).mono ?_
  rintro e w2 ⟨hb2, a2, cap2, rfl, hroom2, hds3⟩
  dsimp only at hroom2 hds3 ⊢
  clear c2
  have hds4 : DesL (fun _ => True) w2 a2 l := hds3.weak (fun _ _ => trivial)
  have hBC : Below w2.heap.size w2 (w2.alloc (.cells #[.int .i64 x, .int .i64 y] 25)) := (Below.refl _ w2).alloc (Nat.le_refl _) _
  have hb3 := hb2.trans (hBC.mono hb2.size)
  have hds5 := hds4.below hBC
  have hds6 := hds2.below hb3
  have hB3 := hB2.trans (hb3.mono hB2.size)
  have HX := Lib.hid (And.intro hds5 (And.intro hds6 hB3))
  have HRM := Lib.hid (And.intro hroom hroom2)
  clear hds4 hds3 hB2 hds2 hb2 hBC hb3 hds5 hds6 hB3 hroom hroom2
  by_cases he : er = 0
  ·subst he
   go_wp2_with fail
   obtain ⟨hds5, hds6, hB3⟩ := HX.out
   clear HX
   refine (num_any _ _).mono ?_
   rintro e w' ⟨rfl, rfl⟩
   obtain ⟨W, hWe⟩ : ∃ W, w2.alloc (.cells #[.int .i64 x, .int .i64 y] 25) = W := ⟨_, rfl⟩
   have hwB : Below w.heap.size w W := by rw [← hWe]; exact hB3
   have hwf : Wf W := hW.below hwB
   have hda : DesL (fun _ => True) W a l := by rw [← hWe]; exact hds6
   have hda2 : DesL (fun _ => True) W a2 l := by rw [← hWe]; exact hds5
   have hpr := print_read hwf HRM.out.1 hda HP.out.1 HP.out.2.1
   have HD := Lib.hid (And.intro hda2 hwB)
   have HWF := Lib.hid hwf
   clear hds5 hds6 hB3 hda hda2 hwB hwf
   first
    | rw [hWe]
    | skip
   go_wp2_with fail
   refine hpr.mono ?_
   rintro e w3 ⟨rfl, hb3⟩
   have hrp := rprint_any HWF.out.t HWF.out.s l a2 cap2 HRM.out.2 HD.out.1 HP.out.1 HP.out.2.1 w3 hb3
   have HB3 := Lib.hid (HD.out.2.trans (hb3.mono HD.out.2.size))
   clear hpr hb3
   obtain ⟨tx, htx⟩ : ∃ tx, bS (prT l) = tx := ⟨_, rfl⟩
   rw [htx] at hrp ⊢
   clear htx
   go_wp2_with (go_at_call 19; refine (num_any _ _).mono ?_; rintro e w' ⟨rfl, rfl⟩)
   refine hrp.mono ?_
   rintro e w4 ⟨rfl, hb4⟩
   have HB4 := Lib.hid (HB3.out.trans (hb4.mono HB3.out.size))
   have HW4 := Lib.hid (hW.below HB4.out)
   clear hrp hb4 HB3
   go_wp2_with fail
   refine (works_any w4 HW4.out).mono ?_
   rintro e w5 ⟨rfl, hb5⟩
   have hB5 := HB4.out.trans (hb5.mono HB4.out.size)
   go_wp2
   go_ret
   exact ⟨rfl, hB5⟩
  ·have hnil := HP.out.2.2 he
   subst hnil
   have he2 : (er == 0) = false := by simpa using he
   have HW2 := Lib.hid (hW.below HX.out.2.2)
   clear HP HRM
   go_wp2_with (go_at_call 19; refine (num_any _ _).mono ?_; rintro e w' ⟨rfl, rfl⟩)
   refine (works_any _ HW2.out).mono ?_
   rintro e w5 ⟨rfl, hb5⟩
   have hB5 := HX.out.2.2.trans (hb5.mono HX.out.2.2.size)
   go_wp2
   go_ret
   exact ⟨rfl, hB5⟩
end Go.Proofs.YtjmlmelcppbefaaGreatDoor
