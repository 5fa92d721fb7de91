/- What the syntax texts share, part 15. No condition. -/
import Derived.Test.YtjmlmelcppbefaaGreatDoorT04
namespace Go.Proofs.YtjmlmelcppbefaaGreatDoor
open Go.RowKit
set_option maxRecDepth 100000 in
set_option maxHeartbeats 4000000 in
theorem run_any (s : ByteArray) (k : Nat) (w : World) (hk : k ≤ s.size) (hs : s.size ≤ 4294967296) :
  Calls Tryz.prog 121 #[.string s, .int .i64 (k : Int)] w fun e w' => e = .returned (.int .i64 ((endOf isAny s k - k : Nat) : Int)) ∧ w = w' := by
 obtain ⟨N, hN⟩ : ∃ N, endOf isAny s k - k = N := ⟨_, rfl⟩
 have hge := endOf_ge isAny s k
 have hE : endOf isAny s k = k + N := by omega
 have HE := Lib.hid hE
 rw [hN]
 clear hN hge hE
 go_enter Tryz.func121, Tryz.ntmps121
 go_wp2_with fail
 go_loopw [5] (fun i wr => ∃ j : Nat, k + j ≤ s.size ∧ i = .int .i64 j ∧ w = wr ∧ Hid (endOf isAny s (k + j) = k + N)) (fun i _ => s.size - (intOf i).toNat)
 case atStart => exact ⟨0, by omega, rfl, rfl, HE⟩
 case round =>
  obtain ⟨j, hj, rfl, rfl, HJ⟩ := hrel
  obtain ⟨m, hm⟩ : ∃ m, k + j = m := ⟨_, rfl⟩
  have HM := Lib.hid hm
  by_cases hms : m < s.size
  ·have hz : (k : Int) + (j : Int) < (s.size : Int) := by omega
   have hz0 : (0 : Int) ≤ (k : Int) + (j : Int) := by omega
   have hzn : ((k : Int) + (j : Int)).toNat = m := by omega
   have hbt := byte_at hms
   obtain ⟨c, hc⟩ : ∃ c, byte s m = c := ⟨_, rfl⟩
   have HC := Lib.hid hc
   rw [hc] at hbt
   clear hc hm
   obtain ⟨q1, h1⟩ : ∃ q, isLet c = q := ⟨_, rfl⟩
   obtain ⟨q2, h2⟩ : ∃ q, isDig c = q := ⟨_, rfl⟩
   have hq : isAny c = (q1 || q2) := by unfold isAny; rw [h1, h2]
   have HQ := Lib.hid hq
   have c1 := rletter_any c w
   have c2 := rdigit_any c w
   rw [h1] at c1
   rw [h2] at c2
   clear h1 h2 hq
   go_wp2_with fail
   refine c1.mono ?_
   rintro e w' ⟨rfl, rfl⟩
   cases q1
   ·go_wp2_with fail
    refine c2.mono ?_
    rintro e w' ⟨rfl, rfl⟩
    cases q2
    ·have hmN : k + N = m := by
      have h := HJ.out
      rw [HM.out, endOf_no hms (by rw [HC.out]; exact HQ.out)] at h
      exact h.symm
     have hjN : N = j := by have := HM.out; omega
     subst hjN
     go_wp2
     go_ret
     exact ⟨rfl, rfl⟩
    ·have hon : endOf isAny s (k + (j + 1)) = k + N := by
      have h := HJ.out
      rw [HM.out, ← endOf_yes hms (by rw [HC.out]; exact HQ.out)] at h
      rw [show k + (j + 1) = m + 1 by have := HM.out; omega]
      exact h
     have HON := Lib.hid hon
     have hj1 : k + (j + 1) ≤ s.size := by have := HM.out; omega
     clear hon
     go_wp2
     go_roundw
     case rel => exact ⟨j + 1, hj1, by go_num, trivial, HON⟩
     case measure => simp [intOf]; omega
   ·have hon : endOf isAny s (k + (j + 1)) = k + N := by
     have h := HJ.out
     rw [HM.out, ← endOf_yes hms (by rw [HC.out]; exact HQ.out)] at h
     rw [show k + (j + 1) = m + 1 by have := HM.out; omega]
     exact h
    have HON := Lib.hid hon
    have hj1 : k + (j + 1) ≤ s.size := by have := HM.out; omega
    clear hon
    go_wp2
    go_roundw
    case rel => exact ⟨j + 1, hj1, by go_num, trivial, HON⟩
    case measure => simp [intOf]; omega
  ·have hmE : m = s.size := by omega
   have hjN : N = j := by
    have h := HJ.out
    rw [HM.out, hmE, endOf_end (Nat.le_refl _)] at h
    omega
   subst hjN
   have hz : ¬ (k : Int) + (N : Int) < (s.size : Int) := by omega
   clear hm
   go_wp2
   go_ret
   exact ⟨rfl, rfl⟩
end Go.Proofs.YtjmlmelcppbefaaGreatDoor
