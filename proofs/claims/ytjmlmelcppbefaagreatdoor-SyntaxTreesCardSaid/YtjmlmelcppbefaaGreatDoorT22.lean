/- What the syntax texts share, part 22. No condition. -/
import Derived.Test.YtjmlmelcppbefaaGreatDoorT09
import Derived.Test.YtjmlmelcppbefaaGreatDoorT18
import Derived.Test.YtjmlmelcppbefaaGreatDoorT20
namespace Go.Proofs.YtjmlmelcppbefaaGreatDoor
open Go.RowKit
def gapF (s : ByteArray) : Nat → Nat → Nat
 | 0, k => endOf isBl s k
 | n + 1, k => if endOf isBl s k < s.size ∧ (byte s (endOf isBl s k)).toNat = 35 then gapF s n (endOf isNoNl s (endOf isBl s k)) else endOf isBl s k
theorem gapF_eq (s : ByteArray) : ∀ n k, s.size - k ≤ n → gapF s n k = gapAt s k := by
 intro n
 induction n with
 | zero =>
  intro k hk
  have h2 := endOf_ge isBl s k
  exact (gap_stop (fun h => by have := h.1; omega)).symm
 | succ n ih =>
  intro k hk
  have h2 := endOf_ge isBl s k
  unfold gapF
  by_cases h : endOf isBl s k < s.size ∧ (byte s (endOf isBl s k)).toNat = 35
  ·have h1 := hash_on h.1 h.2
   rw [if_pos h, ih _ (by omega), gap_hash h.1 h.2]
  ·rw [if_neg h, gap_stop h]
def lexF (s : ByteArray) : Nat → Nat → List Wd → List Wd × (Int × Int) × Int
 | 0, _, acc => (acc, (0, 0), 0)
 | n + 1, k, acc => if gapF s s.size k < s.size then (if wErr s (gapF s s.size k) = 0 then lexF s n (wEnd s (gapF s s.size k)) (acc ++ [tokW s (gapF s s.size k)]) else ([], posAt s (gapF s s.size k), wErr s (gapF s s.size k))) else (acc, (0, 0), 0)
theorem lexF_eq (s : ByteArray) : ∀ n k acc, s.size - k < n → lexF s n k acc = lexA s k acc := by
 intro n
 induction n with
 | zero => intro k acc hk; omega
 | succ n ih =>
  intro k acc hk
  have hg := gapF_eq s s.size k (by omega)
  unfold lexF
  rw [hg]
  by_cases h : gapAt s k < s.size
  ·rw [if_pos h]
   by_cases h2 : wErr s (gapAt s k) = 0
   ·have h3 := lex_dec h h2
    rw [if_pos h2, ih _ _ (by omega), lexA_on h h2]
   ·rw [if_neg h2, lexA_err h h2]
  ·rw [if_neg h, lexA_end h]
theorem lexR_of {s : ByteArray} {R : List Wd × (Int × Int) × Int} (n : Nat) (hs : s.size ≤ 65536) (hn : s.size < n) (h : lexF s n 0 [] = R) : lexR s = R := by
 unfold lexR
 rw [if_neg (by omega), ← lexF_eq s n 0 [] (by omega)]
 exact h
end Go.Proofs.YtjmlmelcppbefaaGreatDoor
namespace Go.Proofs.YtjmlmelcppbefaaGreatDoor
theorem mem_of_anyL {L : List ByteArray} {t : ByteArray} (h : (L.any fun s => s.data.toList == t.data.toList) = true) : t ∈ L := by
 rw [List.any_eq_true] at h
 obtain ⟨x, hx, he⟩ := h
 have : x = t := ByteArray.ext (Array.toList_inj.1 (by simpa using he))
 rw [← this]
 exact hx
theorem sgnF_isSg (s : ByteArray) (k : Nat) : ∀ m, sgnF s k m ≠ 0 → isSg (s.extract k (k + sgnF s k m)).data.toList = true
 | 0, h => absurd rfl h
 | m + 1, h => by
  unfold sgnF at h ⊢
  split
  ·assumption
  ·rename_i hc
   rw [if_neg hc] at h
   exact sgnF_isSg s k m h
theorem kw_op : ∀ t ∈ kwL, opOf t = 0 := by decide
theorem sg_st : ∀ t ∈ sgL, stOf t = 0 := by decide
theorem wKind_le (s : ByteArray) (p : Nat) : wKind s p ≤ 4 := by
 unfold wKind
 split
 ·split <;> decide
 ·split <;> decide
theorem wKind_3 {s : ByteArray} {p : Nat} (h : wKind s p = 3) : opOf (s.extract p (wEnd s p)) = 0 := by
 unfold wKind at h
 unfold wEnd
 split at h
 ·rename_i h1
  rw [if_pos h1]
  split at h
  ·rename_i h2
   exact kw_op _ (mem_of_anyL h2)
  ·cases h
 ·split at h <;> cases h
theorem wKind_4 {s : ByteArray} {p : Nat} (h : wKind s p = 4) (he : wErr s p = 0) : stOf (s.extract p (wEnd s p)) = 0 := by
 unfold wKind at h
 unfold wErr at he
 unfold wEnd
 split at h
 ·split at h <;> cases h
 ·rename_i h1
  rw [if_neg h1] at he ⊢
  split at h
  ·cases h
  ·rename_i h2
   rw [if_neg h2] at he ⊢
   split at he
   ·cases he
   ·rename_i h3
    exact sg_st _ (mem_of_anyL (sgnF_isSg s p _ h3))
theorem lexR_atW (s : ByteArray) (i : Nat) : (lexR s).1.getD i default = default ∨ ∃ p, wErr s p = 0 ∧ (lexR s).1.getD i default = tokW s p := by
 by_cases h : i < (lexR s).1.length
 ·rw [List.getD_eq_getElem?_getD, List.getElem?_eq_getElem h]
  obtain ⟨p, -, h1, h2⟩ := lexR_all (List.getElem_mem h)
  exact .inr ⟨p, h1, h2⟩
 ·rw [List.getD_eq_getElem?_getD, List.getElem?_eq_none (by omega)]
  exact .inl rfl
theorem lexR_k4 (s : ByteArray) (i : Nat) : ((lexR s).1.getD i default).kind ≤ 4 := by
 rcases lexR_atW s i with e | ⟨p, -, e⟩ <;> rw [e]
 ·decide
 ·exact wKind_le s p
theorem lexR_k3 (s : ByteArray) (i : Nat) (h : ((lexR s).1.getD i default).kind = 3) : opOf ((lexR s).1.getD i default).text = 0 := by
 rcases lexR_atW s i with e | ⟨p, -, e⟩ <;> rw [e] at h ⊢
 ·exact absurd h (by decide)
 ·exact wKind_3 h
theorem lexR_k5 (s : ByteArray) (i : Nat) (h : ((lexR s).1.getD i default).kind = 4) : stOf ((lexR s).1.getD i default).text = 0 := by
 rcases lexR_atW s i with e | ⟨p, he, e⟩ <;> rw [e] at h ⊢
 ·exact absurd h (by decide)
 ·exact wKind_4 h he
end Go.Proofs.YtjmlmelcppbefaaGreatDoor
