/- A module's bytes, as plain lists: how they are made, how they are read, and that the one undoes the other. No condition but that the module may be. -/
namespace Go.Proofs.YtjbinejaagpleaaDoor

/-- A number's bytes. -/
def numB (n : Nat) : List Nat := if _h : n < 128 then [n] else (n % 128 + 128) :: numB (n / 128)
termination_by n
decreasing_by omega
theorem numB_lt {n : Nat} (h : n < 128) : numB n = [n] := by rw [numB.eq_def, dif_pos h]
theorem numB_ge {n : Nat} (h : ¬ n < 128) : numB n = (n % 128 + 128) :: numB (n / 128) := by rw [numB.eq_def, dif_neg h]
def sgnN (z : Int) : Nat := if z < 0 then (-2 * z - 1).toNat else (2 * z).toNat
def sgnB (z : Int) : List Nat := numB (sgnN z)
/-- A number is read, of at most so many bytes, behind at bits worth acc. -/
def rdN : Nat → Nat → Nat → List Nat → Option (Nat × List Nat)
  | 0, _, _, _ => none
  | _ + 1, _, _, [] => none
  | f + 1, i, acc, x :: r => if x < 128 then (if x = 0 ∧ 0 < i then none else some (acc + x * 128 ^ i, r)) else rdN f (i + 1) (acc + (x % 128) * 128 ^ i) r
def rdNum (l : List Nat) : Option (Nat × List Nat) := rdN 5 0 0 l

theorem rdN_numB : ∀ (f i acc n : Nat) (r : List Nat), n < 128 ^ f → (0 < i → 0 < n) → 0 < f → rdN f i acc (numB n ++ r) = some (acc + n * 128 ^ i, r) := by
  intro f
  induction f with
  | zero => intro i acc n r h _ h0; omega
  | succ f ih =>
    intro i acc n r h hi _
    by_cases hn : n < 128
    · rw [numB_lt hn]
      simp only [List.cons_append, List.nil_append, rdN, hn, if_true]
      rw [if_neg (fun h0 => by have := hi h0.2; omega)]
    · rw [numB_ge hn]
      simp only [List.cons_append, rdN]
      rw [if_neg (by omega)]
      have hf : 0 < f := by
        rcases Nat.eq_zero_or_pos f with rfl | h1
        · simp at h; omega
        · exact h1
      have hd : n / 128 < 128 ^ f := by
        rw [Nat.pow_succ, Nat.mul_comm] at h
        exact Nat.div_lt_of_lt_mul h
      rw [ih (i + 1) _ (n / 128) r hd (fun _ => by omega) hf]
      have hm : (n % 128 + 128) % 128 = n % 128 := by omega
      rw [hm]
      have he : acc + n % 128 * 128 ^ i + n / 128 * 128 ^ (i + 1) = acc + n * 128 ^ i := by
        rw [Nat.pow_succ, Nat.add_assoc]
        congr 1
        have h1 : n / 128 * (128 ^ i * 128) = (n / 128 * 128) * 128 ^ i := by
          rw [Nat.mul_comm (128 ^ i) 128, ← Nat.mul_assoc]
        rw [h1, ← Nat.add_mul]
        congr 1
        omega
      rw [he]
theorem rdNum_numB {n : Nat} (h : n < 34359738368) (r : List Nat) : rdNum (numB n ++ r) = some (n, r) := by
  have h2 := rdN_numB 5 0 0 n r (by simpa using h) (fun h => by omega) (by decide)
  simpa [rdNum] using h2
theorem rdN_inv : ∀ (f i acc : Nat) (l : List Nat) (n : Nat) (r : List Nat), (∀ x ∈ l, x < 256) → rdN f i acc l = some (n, r) → ∃ m, n = acc + m * 128 ^ i ∧ l = numB m ++ r ∧ (0 < i → 0 < m) ∧ m < 128 ^ f := by
  intro f
  induction f with
  | zero => intro i acc l n r _ h; simp [rdN] at h
  | succ f ih =>
    intro i acc l n r hl h
    match l with
    | [] => simp [rdN] at h
    | x :: q =>
      simp only [rdN] at h
      by_cases hx : x < 128
      · rw [if_pos hx] at h
        by_cases h0 : x = 0 ∧ 0 < i
        · rw [if_pos h0] at h
          cases h
        · rw [if_neg h0] at h
          simp only [Option.some.injEq, Prod.mk.injEq] at h
          obtain ⟨rfl, rfl⟩ := h
          refine ⟨x, rfl, by rw [numB_lt hx]; rfl, fun hi => ?_, ?_⟩
          · rcases Nat.eq_zero_or_pos x with hz | hz
            · exact absurd ⟨hz, hi⟩ h0
            · exact hz
          · rw [Nat.pow_succ, Nat.mul_comm]
            exact Nat.lt_of_lt_of_le hx (Nat.le_mul_of_pos_right 128 (Nat.pow_pos (by decide)))
      · rw [if_neg hx] at h
        obtain ⟨m, h1, h2, h3, h4⟩ := ih (i + 1) _ q n r (fun y hy => hl y (List.mem_cons_of_mem _ hy)) h
        have hx2 := hl x (List.mem_cons_self ..)
        have hm := h3 (Nat.succ_pos i)
        refine ⟨x % 128 + m * 128, ?_, ?_, fun _ => by omega, ?_⟩
        · rw [h1, Nat.add_assoc, Nat.add_mul, Nat.pow_succ, Nat.mul_assoc, Nat.mul_comm 128]
        · rw [numB_ge (by omega), List.cons_append, h2]
          congr 1
          · omega
          · congr 2
            omega
        · rw [Nat.pow_succ]
          omega
theorem rdNum_inv {l : List Nat} {n : Nat} {r : List Nat} (hl : ∀ x ∈ l, x < 256) (h : rdNum l = some (n, r)) : l = numB n ++ r ∧ n < 34359738368 := by
  obtain ⟨m, h1, h2, _, h4⟩ := rdN_inv 5 0 0 l n r hl h
  simp at h1 h4
  subst h1
  exact ⟨h2, by simpa using h4⟩
theorem numB_small : ∀ n, ∀ x ∈ numB n, x < 256 := by
  intro n
  induction n using Nat.strongRecOn with
  | ind n ih =>
    by_cases h : n < 128
    · rw [numB_lt h]
      intro x hx
      simp at hx
      omega
    · rw [numB_ge h]
      intro x hx
      rcases List.mem_cons.1 hx with rfl | hx
      · omega
      · exact ih (n / 128) (by omega) x hx

/-- What a number with a sign is, out of the number. -/
def unsN (n : Nat) : Int := if n % 2 = 1 then -((n / 2 : Nat) : Int) - 1 else ((n / 2 : Nat) : Int)
theorem unsN_sgnN (z : Int) : unsN (sgnN z) = z := by
  unfold unsN sgnN
  split <;> split <;> omega
theorem sgnN_unsN (n : Nat) : sgnN (unsN n) = n := by
  unfold unsN sgnN
  split <;> split <;> omega
end Go.Proofs.YtjbinejaagpleaaDoor
