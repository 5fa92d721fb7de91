/- Of digits the document's number tells what the program's tells. No condition but that they are digits, at least one. -/
import Derived.Test.YtinfocnihngbiaaDoorRnum
namespace Go.Proofs.YtinfocnihngbiaaDoor
open Go.RowKit

theorem fv_big (l : List UInt8) : ∀ acc, acc * 10 ^ l.length ≤ fv acc l := by
  induction l with
  | nil =>
    intro acc
    show acc * 10 ^ 0 ≤ acc
    rw [Nat.pow_zero, Nat.mul_one]
    exact Nat.le_refl _
  | cons x r ih =>
    intro acc
    have h := ih (acc * 10 + (x.toNat - 48))
    have h2 : acc * (10 ^ r.length * 10) ≤ (acc * 10 + (x.toNat - 48)) * 10 ^ r.length := by
      rw [Nat.mul_comm (10 ^ r.length) 10, ← Nat.mul_assoc]
      exact Nat.mul_le_mul_right _ (Nat.le_add_right _ _)
    rw [List.length_cons, Nat.pow_succ]
    exact Nat.le_trans h2 h
theorem num_same {c : UInt8} {r : List UInt8} (hl : ∀ x ∈ c :: r, isDig x = true) :
    (rnumP (c :: r)).2 = (numP (c :: r)).2 ∧ ((numP (c :: r)).2 = true → (rnumP (c :: r)).1 = (numP (c :: r)).1) := by
  have hc := dig_range (hl c (List.mem_cons_self ..))
  have hall : (c :: r).all isDig = true := List.all_eq_true.2 hl
  obtain ⟨v, hv⟩ : ∃ v, fv 0 (c :: r) = v := ⟨_, rfl⟩
  obtain ⟨n, hn⟩ : ∃ n, (c :: r).length = n := ⟨_, rfl⟩
  have hn1 : 1 ≤ n := by rw [← hn, List.length_cons]; omega
  have hbig : ¬ c = 48 → 10 < n → 2147483647 < v := fun h48 h10 => by
    have h1 : 1 ≤ c.toNat - 48 := by
      have : c.toNat ≠ 48 := fun e => h48 (UInt8.toNat_inj.1 (by simpa using e))
      omega
    have h2 : (c.toNat - 48) * 10 ^ r.length ≤ v := by
      rw [← hv]
      have := fv_big r (0 * 10 + (c.toNat - 48))
      rw [Nat.zero_mul, Nat.zero_add] at this
      show _ ≤ fv (0 * 10 + (c.toNat - 48)) r
      rw [Nat.zero_mul, Nat.zero_add]
      exact this
    have hr : 10 ≤ r.length := by rw [List.length_cons] at hn; omega
    have h3 : 10 ^ 10 ≤ 10 ^ r.length := Nat.pow_le_pow_right (by decide) hr
    have h4 : 10 ^ r.length ≤ (c.toNat - 48) * 10 ^ r.length := Nat.le_mul_of_pos_left _ h1
    have e : (10 : Nat) ^ 10 = 10000000000 := by decide
    rw [e] at h3
    have h5 := Nat.le_trans h3 (Nat.le_trans h4 h2)
    omega
  by_cases h10 : n ≤ 10
  · unfold rnumP numP
    rw [hv, hn]
    simp only [hall, List.head?_cons, true_and]
    rw [if_pos h10]
    by_cases h48 : c = 48
    · subst h48
      by_cases h1 : 1 < n
      · have hne : (n == 1) = false := by rw [beq_eq_false_iff_ne]; omega
        simp [h1, hne]
      · have hn' : n = 1 := by omega
        subst hn'
        by_cases hm : 2147483647 < v
        · simp [hm]
        · simp [hm]
          omega
    · have h48' : (some c == some (48 : UInt8)) = false := by simpa using h48
      by_cases hm : 2147483647 < v
      · simp [hm]
        intro h
        omega
      · simp [hm, h48, h48']
        omega
  · have hbad : (1 < n ∧ (c :: r).head? = some 48) ∨ 2147483647 < v := by
      by_cases h48 : c = 48
      · exact .inl ⟨by omega, by rw [h48]; rfl⟩
      · exact .inr (hbig h48 (by omega))
    have e1 : numP (c :: r) = (0, false) := if_pos (by rw [hn, hv]; exact hbad)
    have e2 : rnumP (c :: r) = (0, false) := if_neg (by rw [hn]; exact fun h => h10 h.2)
    rw [e1, e2]
    exact ⟨rfl, fun h => by cases h⟩
end Go.Proofs.YtinfocnihngbiaaDoor
