/- What the syntax texts share, part 20. No condition. -/
import Derived.Test.YtjmlmelcppbefaaGreatDoorT18
import Derived.Test.YtjmlmelcppbefaaGreatDoorT19
namespace Go.Proofs.YtjmlmelcppbefaaGreatDoor
open Go.RowKit
theorem wds_of {B : Nat} {w' : World} {v : Value} {l : List Wd} (h : w'.ownsRow B 91 5 v l.length (l.flatMap Wd.cells)) : Wds w' (match v with | .slice a _ _ => a | _ => none) l := by
 intro i hi
 have hlen : ∀ l : List Wd, (l.flatMap Wd.cells).length = l.length * 5 := fun l => by
  induction l with
  | nil => rfl
  | cons t r ih =>
   rw [List.flatMap_cons, List.length_append, ih, List.length_cons]
   simp [Wd.cells]
   omega
 have hat : ∀ (l : List Wd) (i : Nat), i < l.length → ∀ j, j < 5 → (l.flatMap Wd.cells)[i * 5 + j]? = (l.getD i default).cells[j]? := by
  intro l
  induction l with
  | nil => intro i hi; cases hi
  | cons t r ih =>
   intro i hi j hj
   rw [List.flatMap_cons]
   cases i with
   | zero =>
    rw [List.getElem?_append_left (by simp [Wd.cells]; omega)]
    simp
   | succ i =>
    rw [List.getElem?_append_right (by simp [Wd.cells]; omega)]
    have h5 : t.cells.length = 5 := rfl
    rw [h5, show (i + 1) * 5 + j - 5 = i * 5 + j by omega]
    exact ih i (by simpa using hi) j hj
 rcases h.2 with ⟨_, h0⟩ | ⟨g, cap, cur, rfl, _⟩
 ·omega
 ·have hc := fun j hj => (h.cells (g := g) rfl) (i * 5 + j) _ (((hat l i hi j hj).trans (List.getElem?_eq_getElem (show j < (l.getD i default).cells.length from hj))))
  have hadd : ∀ j, (⟨g, 0, none⟩ : Addr).add j = ⟨g, 0 + j, none⟩ := fun j => by unfold Addr.add; split <;> simp_all
  simp only [hadd] at hc
  exact ⟨g, 0, rfl, hc 0 (by decide), hc 1 (by decide), hc 2 (by decide), hc 3 (by decide), hc 4 (by decide)⟩
structure LOut (l : List Wd) (a : Option Addr) (cap : Nat) (w' : World) : Prop where
 wds : Wds w' a l
 lc : l.length ≤ cap
 mx : cap ≤ maxLen
theorem Wds.below {w w' : World} {B : Nat} {a : Option Addr} {l : List Wd} (h : Wds w a l) (hb : Below B w w') (hB : w.heap.size ≤ B) : Wds w' a l := by
 intro i hi
 obtain ⟨b, off, rfl, h0, h1, h2, h3, h4⟩ := h i hi
 have hlt := World.block_lt_of_cell? w _ h0
 have hc := fun o => hb.cell (p := ⟨b, o, none⟩) (Nat.lt_of_lt_of_le hlt hB)
 exact ⟨b, off, rfl, (hc _).trans h0, (hc _).trans h1, (hc _).trans h2, (hc _).trans h3, (hc _).trans h4⟩
theorem LOut.below {w w' : World} {l : List Wd} {a : Option Addr} {cap : Nat} (h : LOut l a cap w) (hb : Below w.heap.size w w') : LOut l a cap w' := ⟨h.wds.below hb (Nat.le_refl _), h.lc, h.mx⟩
theorem Wds.alloc {w : World} {a : Option Addr} {l : List Wd} (h : Wds w a l) (o : Obj) : Wds (w.alloc o) a l := h.below ((Below.refl _ w).alloc (Nat.le_refl _) o) (Nat.le_refl _)
theorem lexA_len {s : ByteArray} : ∀ n k acc, s.size - k ≤ n → acc.length ≤ k → k ≤ s.size → (lexA s k acc).1.length ≤ s.size := by
 intro n
 induction n with
 | zero =>
  intro k acc hn h1 h2
  rw [lexA_end (by have := gap_ge s k; omega)]
  exact Nat.le_trans h1 h2
 | succ n ih =>
  intro k acc hn h1 h2
  by_cases h : gapAt s k < s.size
  ·by_cases he : wErr s (gapAt s k) = 0
   ·have h3 := lex_dec h he
    have h4 := wEnd_gt h he
    have h5 := wEnd_le h
    have h6 := gap_ge s k
    rw [← lexA_on h he]
    exact ih _ _ (by omega) (by simp; omega) h5
   ·rw [lexA_err h he]
    exact Nat.zero_le _
  ·rw [lexA_end h]
   exact Nat.le_trans h1 h2
theorem lexR_len (s : ByteArray) : (lexR s).1.length ≤ 65536 := by
 unfold lexR
 split
 ·exact Nat.zero_le _
 ·exact Nat.le_trans (lexA_len _ 0 [] (Nat.le_refl _) (Nat.le_refl _) (Nat.zero_le _)) (by omega)
theorem eqp_any (x y x' y' : Int) (w : World) : (Op.equalIn 10000 25 (.agg #[.int .i64 x, .int .i64 y]) (.agg #[.int .i64 x', .int .i64 y'])).run Tryz.prog w = .ok (x == x' && y == y') w := eqp_run 9998 x y x' y' w
end Go.Proofs.YtjmlmelcppbefaaGreatDoor
namespace Go.Proofs.YtjmlmelcppbefaaGreatDoor
theorem lexA_all {s : ByteArray} : ∀ n k acc, s.size - k ≤ n → ∀ t ∈ (lexA s k acc).1, t ∈ acc ∨ ∃ p, p < s.size ∧ wErr s p = 0 ∧ t = tokW s p := by
 intro n
 induction n with
 | zero =>
  intro k acc hn t ht
  rw [lexA_end (by have := gap_ge s k; omega)] at ht
  exact .inl ht
 | succ n ih =>
  intro k acc hn t ht
  by_cases h : gapAt s k < s.size
  ·by_cases he : wErr s (gapAt s k) = 0
   ·have h3 := lex_dec h he
    rw [← lexA_on h he] at ht
    rcases ih _ _ (by omega) t ht with h4 | h4
    ·rcases List.mem_append.1 h4 with h5 | h5
     ·exact .inl h5
     ·exact .inr ⟨_, h, he, by simpa using h5⟩
    ·exact .inr h4
   ·rw [lexA_err h he] at ht
    cases ht
  ·rw [lexA_end h] at ht
   exact .inl ht
theorem lexR_all {s : ByteArray} {t : Wd} (ht : t ∈ (lexR s).1) : ∃ p, p < s.size ∧ wErr s p = 0 ∧ t = tokW s p := by
 unfold lexR at ht
 split at ht
 ·cases ht
 ·rcases lexA_all _ 0 [] (Nat.le_refl _) t ht with h | h
  ·cases h
  ·exact h
theorem numP_bd (t : List UInt8) : 0 ≤ (numP t).1 ∧ (numP t).1 ≤ 2147483647 := by
 unfold numP
 split
 ·exact ⟨by decide, by decide⟩
 ·rename_i h
  constructor
  ·show (0 : Int) ≤ ((fv 0 t : Nat) : Int)
   omega
  ·show ((fv 0 t : Nat) : Int) ≤ 2147483647
   omega
theorem wNum_bd (s : ByteArray) (p : Nat) : 0 ≤ wNum s p ∧ wNum s p ≤ 2147483647 := by
 unfold wNum
 split
 ·exact ⟨by decide, by decide⟩
 split
 ·split
  ·exact ⟨by decide, by decide⟩
  ·exact numP_bd _
 ·exact ⟨by decide, by decide⟩
theorem num_bd (s : ByteArray) (i : Nat) : 0 ≤ ((lexR s).1.getD i default).num ∧ ((lexR s).1.getD i default).num ≤ 2147483647 := by
 by_cases h : i < (lexR s).1.length
 ·rw [List.getD_eq_getElem?_getD, List.getElem?_eq_getElem h]
  obtain ⟨p, -, -, h2⟩ := lexR_all (List.getElem_mem h)
  show 0 ≤ ((lexR s).1[i]).num ∧ ((lexR s).1[i]).num ≤ 2147483647
  rw [h2]
  exact wNum_bd s p
 ·rw [List.getD_eq_getElem?_getD, List.getElem?_eq_none (by omega)]
  exact ⟨by decide, by decide⟩
end Go.Proofs.YtjmlmelcppbefaaGreatDoor
