/- What the syntax texts share, part 40. No condition. -/
import Derived.Test.YtjmlmelcppbefaaGreatDoorT14
namespace Go.Proofs.YtjmlmelcppbefaaGreatDoor
open Go.RowKit
def isName (s : ByteArray) : Bool := decide (0 < s.size) && (decide (s.size ≤ 16) && (isLet (byte s 0) && (s.data.toList.all isAny && !isKw s.data.toList)))
set_option maxRecDepth 100000 in
set_option maxHeartbeats 4000000 in
theorem name_any (s : ByteArray) (w : World) (hs : s.size ≤ 9223372036854775807) : Calls Tryz.prog 97 #[.string s] w fun e w' => e = .returned (.bool (isName s)) ∧ Below w.heap.size w w' := by
 by_cases h0 : s.size = 0
 ·have hs0 : s = ⟨#[]⟩ := by
   apply ByteArray.ext
   exact Array.eq_empty_of_size_eq_zero h0
  subst hs0
  rw [show isName ⟨#[]⟩ = false from rfl]
  clear h0 hs
  go_enter Tryz.func97, Tryz.ntmps97
  go_wp2
  go_ret
  exact ⟨rfl, Below.refl _ _⟩
 ·have hTn2 : ¬ s.toList = [] := by
   intro h
   apply h0
   have h' : (s.toList == ByteArray.toList ⟨#[]⟩) = true := by rw [h, empty_list]; rfl
   rw [Lib.bytes_beq_iff] at h'
   rw [h']
   rfl
  have hTn3 : s.toList.isEmpty = false := by
   cases hl : s.toList with
   | nil => exact absurd hl hTn2
   | cons a l => rfl
  have hTn4 : (s.toList == []) = false := by
   cases hl : s.toList with
   | nil => exact absurd hl hTn2
   | cons a l => rfl
  have hpos : 0 < s.size := by omega
  by_cases h16 : s.size ≤ 16
  ·have h16i : ¬ (16 : Int) < (s.size : Int) := by omega
   have hz0 : (0 : Int) < (s.size : Int) := by omega
   have hb0 := byte_at hpos
   obtain ⟨c, hc⟩ : ∃ c, byte s 0 = c := ⟨_, rfl⟩
   rw [hc] at hb0
   obtain ⟨q, hq⟩ : ∃ q, isLet c = q := ⟨_, rfl⟩
   obtain ⟨R, hR⟩ : ∃ R, isName s = R := ⟨_, rfl⟩
   rw [hR]
   have hR2 : R = (q && (s.data.toList.all isAny && !isKw s.data.toList)) := by
    rw [← hR]
    unfold isName
    rw [decide_eq_true hpos, decide_eq_true h16, hc, hq]
    rfl
   have HR := Lib.hid hR2
   have cl := letter_any c w
   rw [hq] at cl
   have H0 := Lib.hid h0
   clear hR hR2 hc hq h0
   go_enter Tryz.func97, Tryz.ntmps97
   go_wp2_with fail
   refine cl.mono ?_
   rintro e w' ⟨rfl, rfl⟩
   cases q
   ·obtain rfl : R = false := HR.out
    go_wp2
    go_ret
    exact ⟨rfl, Below.refl _ _⟩
   ·clear cl hb0 hTn2 hTn3 hTn4
    go_wp2_with fail
    go_loopw [19] (fun i wr => ∃ k : Nat, k ≤ s.size ∧ i = .int .i64 k ∧ w = wr ∧ Hid (((s.data.toList.drop k).all isAny && !isKw s.data.toList) = R)) (fun i _ => s.size - (intOf i).toNat)
    case atStart => exact ⟨0, by omega, rfl, rfl, Lib.hid (by rw [HR.out]; rfl)⟩
    case round =>
     obtain ⟨k, hk, rfl, rfl, HJ⟩ := hrel
     by_cases hks : k < s.size
     ·have hz : (k : Int) < (s.size : Int) := by omega
      have hbt := byte_at hks
      obtain ⟨d, hd⟩ : ∃ d, byte s k = d := ⟨_, rfl⟩
      have hdr := drop_byte hks
      rw [hd] at hbt hdr
      obtain ⟨q1, h1⟩ : ∃ q, isLet d = q := ⟨_, rfl⟩
      obtain ⟨q2, h2⟩ : ∃ q, isDig d = q := ⟨_, rfl⟩
      have c1 := letter_any d w
      have c2 := digit_any d w
      rw [h1] at c1
      rw [h2] at c2
      have hJ2 : (((q1 || q2) && (s.data.toList.drop (k + 1)).all isAny) && !isKw s.data.toList) = R := by
       rw [← HJ.out, hdr, List.all_cons]
       unfold isAny
       rw [h1, h2]
      have HJ2 := Lib.hid hJ2
      clear h1 h2 hd hdr hJ2
      go_wp2_with fail
      refine c1.mono ?_
      rintro e w' ⟨rfl, rfl⟩
      cases q1
      ·go_wp2_with fail
       refine c2.mono ?_
       rintro e w' ⟨rfl, rfl⟩
       cases q2
       ·obtain rfl : R = false := by rw [← HJ2.out]; rfl
        go_wp2
        go_ret
        exact ⟨rfl, Below.refl _ _⟩
       ·have HJ3 := Lib.hid (show ((s.data.toList.drop (k + 1)).all isAny && !isKw s.data.toList) = R by rw [← HJ2.out]; rfl)
        go_wp2
        go_roundw
        case rel => exact ⟨k + 1, by omega, by go_num, trivial, HJ3⟩
        case measure => simp [intOf]; omega
      ·have HJ3 := Lib.hid (show ((s.data.toList.drop (k + 1)).all isAny && !isKw s.data.toList) = R by rw [← HJ2.out]; rfl)
       go_wp2
       go_roundw
       case rel => exact ⟨k + 1, by omega, by go_num, trivial, HJ3⟩
       case measure => simp [intOf]; omega
     ·obtain rfl : k = s.size := by omega
      have hR : R = !isKw s.data.toList := by
       rw [← HJ.out, List.drop_eq_nil_of_le (by rw [size_list]; exact Nat.le_refl _)]
       rfl
      subst hR
      go_wp2_with fail
      refine (keyword_any s w (by omega)).mono ?_
      rintro e w' ⟨rfl, hb⟩
      go_wp2
      go_ret
      exact ⟨rfl, hb⟩
  ·have h16i : (16 : Int) < (s.size : Int) := by omega
   rw [show isName s = false by unfold isName; rw [decide_eq_true hpos, decide_eq_false h16]; rfl]
   clear h0 h16 hpos
   go_enter Tryz.func97, Tryz.ntmps97
   go_wp2
   go_ret
   exact ⟨rfl, Below.refl _ _⟩
end Go.Proofs.YtjmlmelcppbefaaGreatDoor
