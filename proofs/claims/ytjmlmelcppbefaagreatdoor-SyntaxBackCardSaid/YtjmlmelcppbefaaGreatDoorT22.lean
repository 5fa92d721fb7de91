/- What the syntax texts share, part 22. No condition. -/
import Derived.Test.YtjmlmelcppbefaaGreatDoorT09
import Derived.Test.YtjmlmelcppbefaaGreatDoorT18
import Derived.Test.YtjmlmelcppbefaaGreatDoorT20
namespace Go.Proofs.YtjmlmelcppbefaaGreatDoor
open Go.RowKit
def gapF (s : ByteArray) : Nat → Nat → Nat
 | 0, k => endOf isBl s k
 | n + 1, k => if endOf isBl s k < s.size ∧ (byte s (endOf isBl s k)).toNat = 35 then gapF s n (endOf isNoNl s (endOf isBl s k)) else endOf isBl s k
theorem gapF_eq (s : ByteArray) : ∀ n k, s.size - k ≤ n → gapF s n k = gapAt s k := by
 intro n
 induction n with
 | zero =>
  intro k hk
  have h2 := endOf_ge isBl s k
  exact (gap_stop (fun h => by have := h.1; omega)).symm
 | succ n ih =>
  intro k hk
  have h2 := endOf_ge isBl s k
  unfold gapF
  by_cases h : endOf isBl s k < s.size ∧ (byte s (endOf isBl s k)).toNat = 35
  ·have h1 := hash_on h.1 h.2
   rw [if_pos h, ih _ (by omega), gap_hash h.1 h.2]
  ·rw [if_neg h, gap_stop h]
def lexF (s : ByteArray) : Nat → Nat → List Wd → List Wd × (Int × Int) × Int
 | 0, _, acc => (acc, (0, 0), 0)
 | n + 1, k, acc => if gapF s s.size k < s.size then (if wErr s (gapF s s.size k) = 0 then lexF s n (wEnd s (gapF s s.size k)) (acc ++ [tokW s (gapF s s.size k)]) else ([], posAt s (gapF s s.size k), wErr s (gapF s s.size k))) else (acc, (0, 0), 0)
theorem lexF_eq (s : ByteArray) : ∀ n k acc, s.size - k < n → lexF s n k acc = lexA s k acc := by
 intro n
 induction n with
 | zero => intro k acc hk; omega
 | succ n ih =>
  intro k acc hk
  have hg := gapF_eq s s.size k (by omega)
  unfold lexF
  rw [hg]
  by_cases h : gapAt s k < s.size
  ·rw [if_pos h]
   by_cases h2 : wErr s (gapAt s k) = 0
   ·have h3 := lex_dec h h2
    rw [if_pos h2, ih _ _ (by omega), lexA_on h h2]
   ·rw [if_neg h2, lexA_err h h2]
  ·rw [if_neg h, lexA_end h]
theorem lexR_of {s : ByteArray} {R : List Wd × (Int × Int) × Int} (n : Nat) (hs : s.size ≤ 65536) (hn : s.size < n) (h : lexF s n 0 [] = R) : lexR s = R := by
 unfold lexR
 rw [if_neg (by omega), ← lexF_eq s n 0 [] (by omega)]
 exact h
end Go.Proofs.YtjmlmelcppbefaaGreatDoor
namespace Go.Proofs.YtjmlmelcppbefaaGreatDoor
end Go.Proofs.YtjmlmelcppbefaaGreatDoor
