/- A byte's kinds, as the program's and the document's small functions tell them. No condition. -/
import Derived.Test.YtinfocnihngbiaaDoorRd
namespace Go.Proofs.YtinfocnihngbiaaDoor
open Go.RowKit

def isAny (c : UInt8) : Bool := isLet c || isDig c
def isNoNl (c : UInt8) : Bool := !(c.toNat == 10)
theorem fact_eq {n m : Nat} : ((n : Int) == (m : Int)) = (n == m) := by
  rw [Bool.eq_iff_iff, beq_iff_eq, beq_iff_eq]
  omega

set_option maxHeartbeats 400000 in
theorem letter_any (c : UInt8) (w : World) : Calls Tryd.prog 29 #[.int .u8 (c.toNat : Int)] w fun e w' => e = .returned (.bool (isLet c)) ∧ w = w' := by
  by_cases h1 : 97 ≤ c.toNat
  · by_cases h2 : c.toNat ≤ 122
    · have i1 : (97 : Int) ≤ (c.toNat : Int) := by omega
      have i2 : (c.toNat : Int) ≤ 122 := by omega
      rw [show isLet c = true by simp [isLet, h1, h2]]
      go_enter Tryd.func29, Tryd.ntmps29
      go_wp2
      go_ret
      exact ⟨rfl, rfl⟩
    · have i1 : (97 : Int) ≤ (c.toNat : Int) := by omega
      have i2 : ¬ (c.toNat : Int) ≤ 122 := by omega
      rw [show isLet c = false by simp [isLet, h2]]
      go_enter Tryd.func29, Tryd.ntmps29
      go_wp2
      go_ret
      exact ⟨rfl, rfl⟩
  · have i1 : ¬ (97 : Int) ≤ (c.toNat : Int) := by omega
    rw [show isLet c = false by simp [isLet, h1]]
    go_enter Tryd.func29, Tryd.ntmps29
    go_wp2
    go_ret
    exact ⟨rfl, rfl⟩

set_option maxHeartbeats 400000 in
theorem digit_any (c : UInt8) (w : World) : Calls Tryd.prog 30 #[.int .u8 (c.toNat : Int)] w fun e w' => e = .returned (.bool (isDig c)) ∧ w = w' := by
  by_cases h1 : 48 ≤ c.toNat
  · by_cases h2 : c.toNat ≤ 57
    · have i1 : (48 : Int) ≤ (c.toNat : Int) := by omega
      have i2 : (c.toNat : Int) ≤ 57 := by omega
      rw [show isDig c = true by simp [isDig, h1, h2]]
      go_enter Tryd.func30, Tryd.ntmps30
      go_wp2
      go_ret
      exact ⟨rfl, rfl⟩
    · have i1 : (48 : Int) ≤ (c.toNat : Int) := by omega
      have i2 : ¬ (c.toNat : Int) ≤ 57 := by omega
      rw [show isDig c = false by simp [isDig, h2]]
      go_enter Tryd.func30, Tryd.ntmps30
      go_wp2
      go_ret
      exact ⟨rfl, rfl⟩
  · have i1 : ¬ (48 : Int) ≤ (c.toNat : Int) := by omega
    rw [show isDig c = false by simp [isDig, h1]]
    go_enter Tryd.func30, Tryd.ntmps30
    go_wp2
    go_ret
    exact ⟨rfl, rfl⟩

set_option maxHeartbeats 400000 in
theorem rletter_any (c : UInt8) (w : World) : Calls Tryd.prog 31 #[.int .u8 (c.toNat : Int)] w fun e w' => e = .returned (.bool (isLet c)) ∧ w = w' := by
  by_cases h1 : 97 ≤ c.toNat
  · by_cases h2 : c.toNat ≤ 122
    · have i1 : (97 : Int) ≤ (c.toNat : Int) := by omega
      have i2 : (c.toNat : Int) ≤ 122 := by omega
      rw [show isLet c = true by simp [isLet, h1, h2]]
      go_enter Tryd.func31, Tryd.ntmps31
      go_wp2
      go_ret
      exact ⟨rfl, rfl⟩
    · have i1 : (97 : Int) ≤ (c.toNat : Int) := by omega
      have i2 : ¬ (c.toNat : Int) ≤ 122 := by omega
      rw [show isLet c = false by simp [isLet, h2]]
      go_enter Tryd.func31, Tryd.ntmps31
      go_wp2
      go_ret
      exact ⟨rfl, rfl⟩
  · have i1 : ¬ (97 : Int) ≤ (c.toNat : Int) := by omega
    rw [show isLet c = false by simp [isLet, h1]]
    go_enter Tryd.func31, Tryd.ntmps31
    go_wp2
    go_ret
    exact ⟨rfl, rfl⟩

set_option maxHeartbeats 400000 in
theorem rdigit_any (c : UInt8) (w : World) : Calls Tryd.prog 32 #[.int .u8 (c.toNat : Int)] w fun e w' => e = .returned (.bool (isDig c)) ∧ w = w' := by
  by_cases h1 : 48 ≤ c.toNat
  · by_cases h2 : c.toNat ≤ 57
    · have i1 : (48 : Int) ≤ (c.toNat : Int) := by omega
      have i2 : (c.toNat : Int) ≤ 57 := by omega
      rw [show isDig c = true by simp [isDig, h1, h2]]
      go_enter Tryd.func32, Tryd.ntmps32
      go_wp2
      go_ret
      exact ⟨rfl, rfl⟩
    · have i1 : (48 : Int) ≤ (c.toNat : Int) := by omega
      have i2 : ¬ (c.toNat : Int) ≤ 57 := by omega
      rw [show isDig c = false by simp [isDig, h2]]
      go_enter Tryd.func32, Tryd.ntmps32
      go_wp2
      go_ret
      exact ⟨rfl, rfl⟩
  · have i1 : ¬ (48 : Int) ≤ (c.toNat : Int) := by omega
    rw [show isDig c = false by simp [isDig, h1]]
    go_enter Tryd.func32, Tryd.ntmps32
    go_wp2
    go_ret
    exact ⟨rfl, rfl⟩

set_option maxHeartbeats 400000 in
theorem blank_any (c : UInt8) (w : World) : Calls Tryd.prog 42 #[.int .u8 (c.toNat : Int)] w fun e w' => e = .returned (.bool (isBl c)) ∧ w = w' := by
  obtain ⟨q1, h1⟩ : ∃ q, (c.toNat == 32) = q := ⟨_, rfl⟩
  obtain ⟨q2, h2⟩ : ∃ q, (c.toNat == 9) = q := ⟨_, rfl⟩
  obtain ⟨q3, h3⟩ : ∃ q, (c.toNat == 13) = q := ⟨_, rfl⟩
  obtain ⟨q4, h4⟩ : ∃ q, (c.toNat == 10) = q := ⟨_, rfl⟩
  have i1 : ((c.toNat : Int) == 32) = q1 := by rw [← h1]; exact fact_eq (m := 32)
  have i2 : ((c.toNat : Int) == 9) = q2 := by rw [← h2]; exact fact_eq (m := 9)
  have i3 : ((c.toNat : Int) == 13) = q3 := by rw [← h3]; exact fact_eq (m := 13)
  have i4 : ((c.toNat : Int) == 10) = q4 := by rw [← h4]; exact fact_eq (m := 10)
  rw [show isBl c = (q1 || q2 || q3 || q4) by simp only [isBl, h1, h2, h3, h4]]
  clear h1 h2 h3 h4
  cases q1
  · cases q2
    · cases q3
      · cases q4
        all_goals
          go_enter Tryd.func42, Tryd.ntmps42
          go_wp2
          go_ret
          exact ⟨rfl, rfl⟩
      · clear i4
        go_enter Tryd.func42, Tryd.ntmps42
        go_wp2
        go_ret
        exact ⟨rfl, rfl⟩
    · clear i3 i4
      go_enter Tryd.func42, Tryd.ntmps42
      go_wp2
      go_ret
      exact ⟨rfl, rfl⟩
  · clear i2 i3 i4
    go_enter Tryd.func42, Tryd.ntmps42
    go_wp2
    go_ret
    exact ⟨rfl, rfl⟩

set_option maxHeartbeats 400000 in
theorem nonl_any (c : UInt8) (w : World) : Calls Tryd.prog 43 #[.int .u8 (c.toNat : Int)] w fun e w' => e = .returned (.bool (isNoNl c)) ∧ w = w' := by
  obtain ⟨q4, h4⟩ : ∃ q, (c.toNat == 10) = q := ⟨_, rfl⟩
  have i4 : ((c.toNat : Int) == 10) = q4 := by rw [← h4]; exact fact_eq (m := 10)
  have i5 : ((c.toNat : Int) != 10) = !q4 := by rw [← i4]; rfl
  rw [show isNoNl c = !q4 by simp only [isNoNl, h4]]
  clear h4
  cases q4
  all_goals
    go_enter Tryd.func43, Tryd.ntmps43
    go_wp2
    go_ret
    exact ⟨rfl, rfl⟩

set_option maxHeartbeats 400000 in
theorem any_any (c : UInt8) (w : World) : Calls Tryd.prog 44 #[.int .u8 (c.toNat : Int)] w fun e w' => e = .returned (.bool (isAny c)) ∧ w = w' := by
  have c1 := letter_any c w
  have c2 := digit_any c w
  obtain ⟨q1, h1⟩ : ∃ q, isLet c = q := ⟨_, rfl⟩
  obtain ⟨q2, h2⟩ : ∃ q, isDig c = q := ⟨_, rfl⟩
  rw [h1] at c1
  rw [h2] at c2
  rw [show isAny c = (q1 || q2) by simp only [isAny, h1, h2]]
  clear h1 h2
  cases q1
  · go_enter Tryd.func44, Tryd.ntmps44
    go_wp2_with fail
    refine c1.mono ?_
    rintro e w' ⟨rfl, rfl⟩
    go_wp2_with fail
    refine c2.mono ?_
    rintro e w' ⟨rfl, rfl⟩
    go_wp2
    go_ret
    exact ⟨rfl, rfl⟩
  · go_enter Tryd.func44, Tryd.ntmps44
    go_wp2_with fail
    refine c1.mono ?_
    rintro e w' ⟨rfl, rfl⟩
    go_wp2
    go_ret
    exact ⟨rfl, rfl⟩

set_option maxHeartbeats 400000 in
theorem all_any (c : UInt8) (w : World) : Calls Tryd.prog 27 #[.int .u8 (c.toNat : Int)] w fun e w' => e = .returned (.bool true) ∧ w = w' := by
  go_enter Tryd.func27, Tryd.ntmps27
  go_wp2
  go_ret
  exact ⟨rfl, rfl⟩
end Go.Proofs.YtinfocnihngbiaaDoor
