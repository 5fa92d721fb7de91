/- What the syntax texts share, part 17. No condition. -/
import Derived.IntWalk
import Derived.Test.YtjmlmelcppbefaaGreatDoorT16
namespace Go.Proofs.YtjmlmelcppbefaaGreatDoor
open Go.RowKit
theorem find_step {p : ByteArray → Bool} {l : List ByteArray} {j : Nat} (h : j < l.length) : (l.drop j).find? p = if p (l.getD j ByteArray.empty) then some (l.getD j ByteArray.empty) else (l.drop (j + 1)).find? p := by
 rw [List.drop_eq_getElem_cons h, List.find?_cons, List.getD, List.getElem?_eq_getElem h]
 simp only [Option.getD_some]
 cases p l[j] <;> rfl
theorem rs_sz : ∀ x ∈ rsL, x.size = 1 ∨ x.size = 2 := by decide
set_option maxRecDepth 100000 in
set_option maxHeartbeats 8000000 in
theorem one_sgn (s : ByteArray) (k : Nat) (w : World) (hk : k < s.size) (hs : s.size ≤ 4294967296) (hc : isLet (byte s k) = false) (hd : isDig (byte s k) = false)
  (R : Option ByteArray) (hR : rsL.find? (mt s k) = R)
  (kd : Int) (tx : ByteArray) (nn : Nat) (er : Int) (hkey : (∀ x, R = some x → 4 = kd ∧ x = tx ∧ x.size = nn ∧ 0 = er) ∧ (R = none → 0 = kd ∧ ⟨#[]⟩ = tx ∧ 0 = nn ∧ 110 = er)) :
  Calls Tryz.prog 81 #[.string s, .int .i64 (k : Int)] w (OPost w kd tx 0 nn er) := by
 have hE : endOf isAny s k = k := endOf_no hk (by unfold isAny; rw [hc, hd]; rfl)
 have hz : Tk (w.alloc zTok) w.heap.size 0 ⟨#[]⟩ 0 (0, 0) := World.alloc_heap_new _ _
 have hB : Below w.heap.size w (w.alloc zTok) := (Below.refl _ w).alloc (Nat.le_refl _) _
 have cr := run_any s k (w.alloc zTok) (Nat.le_of_lt hk) hs
 rw [hE, Nat.sub_self] at cr
 have hks : (k : Int) ≤ (s.size : Int) := by omega
 have HKEY := Lib.hid hkey
 have HR : Hid ((rsL.drop 0).find? (mt s k) = R) := Lib.hid hR
 clear hE hc hd hkey hR
 go_enter Tryz.func81, Tryz.ntmps81
 go_wp2_with fail
 refine cr.mono ?_
 rintro e w' ⟨rfl, rfl⟩
 generalize w.alloc zTok = W0 at *
 clear cr
 go_wp2_with fail
 refine (rsigns_any _).mono ?_
 rintro e w1 ⟨rfl, rfl⟩
 have hT := txts_new W0 rsL
 have hz1 := hz.alloc (.cells (rsL.map Value.string).toArray 9)
 have hB1 := hB.alloc hB.size (.cells (rsL.map Value.string).toArray 9)
 have hltz := hz.lt
 have hlt1 : w.heap.size < W0.heap.size := hz.lt
 clear hz hB
 generalize hW1 : W0.alloc (.cells (rsL.map Value.string).toArray 9) = W1 at *
 obtain ⟨g, hg⟩ : ∃ g, W0.heap.size = g := ⟨_, rfl⟩
 rw [hg] at hT hlt1 ⊢
 clear hW1 hg hltz
 go_wp2_with fail
 have fin : ∀ (n : Nat) (x : Int) (v : ByteArray) (nm : Int) (nn : Nat) (er : Int),
   Tk ((((((W1.setCell ⟨w.heap.size, 0, none⟩ (.int .i64 x)).setCell ⟨w.heap.size, 1, none⟩ (.string v)).setCell ⟨w.heap.size, 2, none⟩ (.int .i64 nm)).setCell ⟨w.heap.size, 3, none⟩ (.int .i64 0)).setCell ⟨w.heap.size, 4, none⟩ (.int .i64 0)).drewN n) w.heap.size x v nm (0, 0) ∧
   OPost w x v nm nn er (.returned (.tuple #[.agg #[.int .i64 x, .string v, .int .i64 nm, .int .i64 0, .int .i64 0], .int .i64 (nn : Int), .int .i64 er])) ((((((W1.setCell ⟨w.heap.size, 0, none⟩ (.int .i64 x)).setCell ⟨w.heap.size, 1, none⟩ (.string v)).setCell ⟨w.heap.size, 2, none⟩ (.int .i64 nm)).setCell ⟨w.heap.size, 3, none⟩ (.int .i64 0)).setCell ⟨w.heap.size, 4, none⟩ (.int .i64 0)).drewN n) := fun n x v nm nn er => by
  have hb := ((((hB1.setCell (p := ⟨w.heap.size, 0, none⟩) (Nat.le_refl _) (.int .i64 x)).setCell (p := ⟨w.heap.size, 1, none⟩) (Nat.le_refl _) (.string v)).setCell (p := ⟨w.heap.size, 2, none⟩) (Nat.le_refl _) (.int .i64 nm)).setCell (p := ⟨w.heap.size, 3, none⟩) (Nat.le_refl _) (.int .i64 0)).setCell (p := ⟨w.heap.size, 4, none⟩) (Nat.le_refl _) (.int .i64 0)
  exact ⟨(hz1.set5 x v nm 0 0).drewN n, rfl, ⟨hb.os, hb.tape, hb.output, hb.size, hb.block⟩⟩
 have HF := Lib.hid fin
 clear fin
 have HZ := Lib.hid hz1
 clear hz1 hB1
 go_loopw [12] (fun i wr => ∃ j : Nat, j ≤ 20 ∧ i = .int .i64 j ∧ Hid ((rsL.drop j).find? (mt s k) = R) ∧ ∃ n, wr = W1.drewN n) (fun i _ => 20 - (intOf i).toNat)
 case atStart => exact ⟨0, by omega, rfl, HR, 0, rfl⟩
 case round =>
  clear HR
  obtain ⟨j, hj, rfl, HJ, n, rfl⟩ := hrel
  have hz1 := HZ.out
  have z0 := hz1.c0
  have z1 := hz1.c1
  have z2 := hz1.c2
  have z3 := hz1.c3
  have z4 := hz1.c4
  have f0 := hz1.frozen 0
  have f1 := hz1.frozen 1
  have f2 := hz1.frozen 2
  have f3 := hz1.frozen 3
  have f4 := hz1.frozen 4
  clear hz1
  by_cases hlj : j < 20
  ·have hp0 : (0 : Int) ≤ (j : Int) := by omega
   have hp1 : (j : Int) < 20 := by omega
   have hlen : j < rsL.length := hlj
   have hst := find_step (p := mt s k) hlen
   have hmem : rsL.getD j ByteArray.empty ∈ rsL := by
    rw [List.getD, List.getElem?_eq_getElem hlen]
    exact List.getElem_mem hlen
   obtain ⟨x, hx⟩ : ∃ x, rsL.getD j ByteArray.empty = x := ⟨_, rfl⟩
   rw [hx] at hst hmem
   have hcx : W1.cell? ⟨g, j, none⟩ = some (.string x) := by
    rw [← hx]
    exact hT.cell hlen
   have hsz := rs_sz x hmem
   have hst2 : (if mt s k x then some x else (rsL.drop (j + 1)).find? (mt s k)) = R := hst.symm.trans HJ.out
   obtain ⟨m, hm⟩ : ∃ m, x.size = m := ⟨_, rfl⟩
   have hxs : x.size = m := hm
   rw [hm] at hsz
   have HM := Lib.hid hm
   have w1 : IntKind.i64.wrap ((k : Int) + (m : Int)) = (k : Int) + (m : Int) := IntWalk.i64_in _ (by omega)
   have HW := Lib.hid w1
   clear hx hst hm hmem w1
   by_cases hfit : k + m ≤ s.size
   ·have hfi : (k : Int) + (m : Int) ≤ (s.size : Int) := by omega
    obtain ⟨q, hq⟩ : ∃ q, ((s.extract k (k + m)).toList == x.toList) = q := ⟨_, rfl⟩
    have hq2 : mt s k x = q := by
     unfold mt
     rw [HM.out, decide_eq_true hfit, Bool.true_and, ← hq]
     exact same_bytes _ x
    rw [hq2] at hst2
    have HST := Lib.hid hst2
    clear hst2 hq2
    have hd : decide ((k : Int) + (m : Int) ≤ (s.size : Int)) = true := decide_eq_true hfi
    have hk0 : (0 : Int) ≤ (k : Int) + (m : Int) := by omega
    have hk1 : (k : Int) ≤ (k : Int) + (m : Int) := by omega
    have tt : ((k : Int) + (m : Int)).toNat = k + m := by omega
    have w1 := HW.out
    go_wp2_with fail
    go_quiet (fail)
    cases q
    ·have HJ2 : Hid ((rsL.drop (j + 1)).find? (mt s k) = R) := Lib.hid (by simpa using HST.out)
     clear w1
     go_wp2
     go_roundw
     case rel => exact ⟨j + 1, by omega, by go_num, HJ2, _, by first | rfl | (rw [World.drewN_drewN])⟩
     case measure => simp [intOf]; omega
    ·have hRs : R = some x := by simpa using HST.out.symm
     obtain ⟨rfl, rfl, hnn, rfl⟩ := HKEY.out.1 x hRs
     obtain rfl : m = nn := HM.out.symm.trans hnn
     clear w1
     go_wp2
     exact end_tk3 (HF.out _ 4 x 0 m 0).1 rfl rfl rfl rfl rfl (HF.out _ 4 x 0 m 0).2
   ·have hfi : ¬ (k : Int) + (m : Int) ≤ (s.size : Int) := by omega
    have hq2 : mt s k x = false := by
     unfold mt
     rw [HM.out, decide_eq_false hfit]
     rfl
    rw [hq2] at hst2
    have HJ2 : Hid ((rsL.drop (j + 1)).find? (mt s k) = R) := Lib.hid (by simpa using hst2)
    clear hst2 hq2
    have hd : decide ((k : Int) + (m : Int) ≤ (s.size : Int)) = false := decide_eq_false hfi
    have w1 := HW.out
    go_wp2_with fail
    go_quiet (fail)
    clear w1
    go_wp2
    go_roundw
    case rel => exact ⟨j + 1, by omega, by go_num, HJ2, _, by first | rfl | (rw [World.drewN_drewN])⟩
    case measure => simp [intOf]; omega
  ·obtain rfl : j = 20 := by omega
   have hRn : R = none := by rw [← HJ.out]; rfl
   obtain ⟨rfl, rfl, rfl, rfl⟩ := HKEY.out.2 hRn
   go_wp2
   exact end_tk3 (HF.out n 0 ⟨#[]⟩ 0 0 110).1 rfl rfl rfl rfl rfl (HF.out n 0 ⟨#[]⟩ 0 0 110).2
end Go.Proofs.YtjmlmelcppbefaaGreatDoor
