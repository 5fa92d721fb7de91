/- V1: texts of one kind, one behind the other. No condition but what each law says. -/
import Derived.Test.YtjmlmelcppbefaaGreatDoorT10
import Derived.Test.YtjmlmelcppbefaaGreatDoorT09
import Derived.Test.YtjmlmelcppbefaaGreatDoorT22
import Derived.Test.YtjmlmelcppbefaaGreatDoorT30
import Derived.Test.YtjmlmelcppbefaaGreatDoorT40
namespace Go.Proofs.YtjmlmelcppbefaaGreatDoor
open Go.RowKit
mutual
def Ex.cnt : Ex → Nat
 | .mk _ _ s _ _ _ args => 1 + s.size + Ex.cnts args
def Ex.cnts : List Ex → Nat
 | [] => 0
 | e :: r => e.cnt + Ex.cnts r
end
mutual
def St.cnt : St → Nat
 | .mk _ _ _ s t x y b e _ _ _ _ => 1 + s.size + t.size + x.cnt + y.cnt + St.cnts b + St.cnts e
def St.cnts : List St → Nat
 | [] => 0
 | s :: r => s.cnt + St.cnts r
end
def deCnt (d : De) : Nat := 1 + d.name.size + St.cnts d.body
def desCnt : List De → Nat
 | [] => 0
 | d :: r => deCnt d + desCnt r
theorem size_l (s : ByteArray) : s.data.toList.length = s.size := Array.length_toList
theorem op_le (o : Nat) : (opS.getD o noB).data.toList.length ≤ 2 := by
 by_cases h : o < 12
 ·have : ∀ j : Fin 12, (opS.getD j.val noB).data.toList.length ≤ 2 := by decide
  exact this ⟨o, h⟩
 ·rw [List.getD_eq_getElem?_getD, List.getElem?_eq_none (by show opS.length ≤ o; simp [opS]; omega)]
  decide
theorem st_le (k : Nat) : (stW.getD k noB).data.toList.length ≤ 6 := by
 by_cases h : k < 16
 ·have : ∀ j : Fin 16, (stW.getD j.val noB).data.toList.length ≤ 6 := by decide
  exact this ⟨k, h⟩
 ·rw [List.getD_eq_getElem?_getD, List.getElem?_eq_none (by show stW.length ≤ k; simp [stW]; omega)]
  decide
theorem par_le (b n : Nat) (t : List UInt8) : (par b n t).length ≤ t.length + 2 := by
 unfold par
 split
 ·simp
 ·omega
theorem exT_le (nm : ByteArray → Bool) : ∀ (e : Ex) (d : Nat), exR nm e d = true → (exT e).length ≤ 30 * e.cnt
 | .mk k n s sl lo o [], d, h => by
  simp only [exR, Bool.and_eq_true, Bool.or_eq_true, decide_eq_true_eq] at h
  simp only [exT, Ex.cnt, Ex.cnts]
  split
  ·rename_i hk
   have hn : 0 ≤ n ∧ n ≤ 2147483647 := by
    rcases h.2.2.2.2 with h | h
    ·exact h.2
    ·omega
   have := Lib.itoa_length_le n (by omega) (by omega)
   omega
  ·rw [size_l]
   omega
 | .mk k n s sl lo o [x], d, h => by
  simp only [exR, Bool.and_eq_true] at h
  have hx := exT_le nm x (d - 1) h.2.2.2.2.2
  have hp := par_le x.bind 6 (exT x)
  simp only [exT, Ex.cnt, Ex.cnts]
  split
  ·simp only [List.length_append, List.length_cons, List.length_nil, size_l]
   omega
  ·simp only [List.length_cons]
   omega
 | .mk k n s sl lo o [x, y], d, h => by
  simp only [exR, Bool.and_eq_true] at h
  have hx := exT_le nm x (d - 1) h.2.2.2.2.2.1
  have hy := exT_le nm y (d - 1) h.2.2.2.2.2.2
  have hp := par_le x.bind (if rankOf o.toNat = 3 then 4 else rankOf o.toNat) (exT x)
  have hq := par_le y.bind (rankOf o.toNat + 1) (exT y)
  have ho := op_le o.toNat
  simp only [exT, Ex.cnt, Ex.cnts, List.length_append, List.length_cons]
  omega
 | .mk k n s sl lo o (x :: y :: z :: r), d, h => by
  simp only [exT, List.length_nil]
  omega
theorem exR_of (nm : ByteArray → Bool) {k : Int} {x : Ex} (h : (if nExpr k = true then exR nm x 24 else exZ x) = true) (hk : nExpr k = true) : (exT x).length ≤ 30 * x.cnt := by
 rw [if_pos hk] at h
 exact exT_le nm x 24 h
mutual
theorem stT_le (nm : ByteArray → Bool) : ∀ (s : St) (d n : Nat), stR nm s d = true → n ≤ d → (stT s n).length + n + 1 ≤ 200 * s.cnt
 | .mk k l c s t x y b e _ _ _ _, d, n, h, hn => by
  unfold stR at h
  simp only [Bool.and_eq_true, decide_eq_true_eq] at h
  obtain ⟨-, hd, -, -, hy, hx, -, -, hb, he⟩ := h
  have b1 := blT_cnt nm b (d + 1) (n + 1) hb (by omega)
  have b2 := blT_cnt nm e (d + 1) (n + 1) he (by omega)
  have hw := st_le k.toNat
  rw [size_l] at hw
  have htb : (tabs n).length = n := by simp [tabs]
  have hX := exR_of nm hx
  simp only [St.cnt]
  unfold stT
  split
  ·rename_i hk
   have := hX (by rw [hk]; decide)
   simp only [List.length_append, List.length_cons, List.length_nil, size_l]
   omega
  split
  ·rename_i hk
   have := hX (by rw [hk]; decide)
   simp only [List.length_append, List.length_cons, List.length_nil, size_l]
   omega
  split
  ·rename_i hk
   have := hX (by rw [hk]; decide)
   rw [if_pos hk] at hy
   have := exT_le nm y 24 hy
   simp only [List.length_append, List.length_cons, List.length_nil, size_l]
   omega
  split
  ·rename_i hk
   have := hX (by rw [hk]; decide)
   split <;> simp only [List.length_append, List.length_cons, List.length_nil, htb] <;> omega
  split
  ·rename_i hk
   have := hX (by rw [hk]; decide)
   simp only [List.length_append, List.length_cons, List.length_nil, htb]
   omega
  split
  ·simp only [List.length_append, List.length_cons, List.length_nil, size_l]
   omega
  split
  ·rename_i hk
   have := hX (by rw [hk]; decide)
   simp only [List.length_append, List.length_cons, List.length_nil, size_l]
   omega
  split
  ·simp only [List.length_cons, List.length_nil]
   omega
  split
  ·rename_i hk
   have := hX (by rw [hk]; decide)
   simp only [List.length_append, List.length_cons, List.length_nil]
   omega
  ·simp only [List.length_append, List.length_cons, List.length_nil, size_l]
   omega
theorem blT_cnt (nm : ByteArray → Bool) : ∀ (l : List St) (d n : Nat), stsR nm l d = true → n ≤ d → (blT l n).length ≤ 200 * St.cnts l
 | [], _, _, _, _ => by simp [blT]
 | s :: r, d, n, h, hn => by
  unfold stsR at h
  rw [Bool.and_eq_true] at h
  have h1 := stT_le nm s d n h.1 hn
  have h2 := blT_cnt nm r d n h.2 hn
  have htb : (tabs n).length = n := by simp [tabs]
  simp only [blT, St.cnts, List.length_append, List.length_cons, List.length_nil, htb]
  omega
end
theorem deT_le (nm : ByteArray → Bool) {d : De} (h : deR nm d = true) : (deT d).length ≤ 200 * deCnt d := by
 obtain ⟨k, l, c, s, n, b⟩ := d
 unfold deR at h
 simp only [Bool.and_eq_true] at h
 have h3 := h.2.2
 unfold deT deCnt
 simp only at h3 ⊢
 split
 ·rename_i hk
  rw [if_pos hk] at h3
  simp only [Bool.and_eq_true, decide_eq_true_eq] at h3
  have := Lib.itoa_length_le n (by omega) (by omega)
  simp only [List.length_append, List.length_cons, List.length_nil, size_l]
  omega
 rename_i h1
 rw [if_neg h1] at h3
 split
 ·rename_i hk
  rw [if_pos (.inl hk)] at h3
  simp only [Bool.and_eq_true, decide_eq_true_eq] at h3
  have := Lib.itoa_length_le n (by omega) (by omega)
  simp only [List.length_append, List.length_cons, List.length_nil, size_l]
  omega
 split
 ·simp only [List.length_append, List.length_cons, List.length_nil, size_l]
  omega
 split
 ·simp only [List.length_append, List.length_cons, List.length_nil, size_l]
  omega
 split
 ·rename_i hk
  rw [if_pos (.inr hk)] at h3
  simp only [Bool.and_eq_true, decide_eq_true_eq] at h3
  have := Lib.itoa_length_le n (by omega) (by omega)
  simp only [List.length_append, List.length_cons, List.length_nil, size_l]
  omega
 ·rename_i h2 h3' h4 h5
  rw [if_neg (by omega), if_neg (by omega)] at h3
  split at h3
  ·simp only [Bool.and_eq_true] at h3
   have := blT_cnt nm b 1 (0 + 1) h3.2 (Nat.le_refl _)
   simp only [blockT, tabs, List.length_append, List.length_cons, List.length_nil, List.length_replicate, size_l]
   omega
  ·cases h3
theorem prT_cnt (nm : ByteArray → Bool) : ∀ {l : List De}, desR nm l = true → (prT l).length ≤ 200 * desCnt l
 | [], _ => by simp [prT]
 | d :: r, h => by
  unfold desR at h
  rw [List.all_cons, Bool.and_eq_true] at h
  have h1 := deT_le nm h.1
  have h2 := prT_cnt nm (l := r) h.2
  have e : prT (d :: r) = deT d ++ prT r := rfl
  rw [e, List.length_append, desCnt]
  omega
section
variable {T : List Wd}
end
section
variable {T : List Wd}
end
theorem name_le {s : ByteArray} (h : isName s = true) : s.size ≤ 9223372036854775807 := by
 unfold isName at h
 simp only [Bool.and_eq_true, decide_eq_true_eq] at h
 omega
theorem name_or {c : Bool} {s : ByteArray} (h : (if c = true then isName s else decide (s = noB)) = true) : s.size ≤ 9223372036854775807 := by
 split at h
 ·exact name_le h
 ·simp only [decide_eq_true_eq] at h
  subst h
  decide
mutual
theorem exR_nb : ∀ {e : Ex} {d : Nat}, exR isName e d = true → e.nb
 | .mk k n s sl lo o args, d, h => by
  rw [exR_eq] at h
  simp only [Bool.and_eq_true] at h
  unfold Ex.nb
  refine ⟨?_, exsR_nb h.2.2.2.2.2.2⟩
  have h4 := h.2.2.2.1
  split at h4
  ·exact name_le h4
  ·simp only [decide_eq_true_eq] at h4
   subst h4
   decide
theorem exsR_nb : ∀ {l : List Ex} {d : Nat}, exsR isName l d = true → Ex.nbs l
 | [], _, _ => by unfold Ex.nbs; trivial
 | x :: r, d, h => by
  unfold exsR at h
  rw [List.all_cons, Bool.and_eq_true] at h
  unfold Ex.nbs
  exact ⟨exR_nb h.1, exsR_nb (d := d) h.2⟩
end
theorem exZ_nb : ∀ {e : Ex}, exZ e = true → e.nb
 | .mk k n s sl lo o args, h => by
  simp only [exZ, Bool.and_eq_true, decide_eq_true_eq] at h
  obtain ⟨-, -, rfl, -, h5⟩ := h
  obtain rfl := List.length_eq_zero_iff.1 h5
  unfold Ex.nb Ex.nbs
  exact ⟨by decide, trivial⟩
theorem exRZ_nb {c : Prop} [Decidable c] {e : Ex} (h : (if c then exR isName e 24 else exZ e) = true) : e.nb := by
 split at h
 ·exact exR_nb h
 ·exact exZ_nb h
mutual
theorem stR_nb : ∀ {s : St} {d : Nat}, stR isName s d = true → s.nb
 | .mk k l c s t x y b e _ _ _ _, d, h => by
  unfold stR at h
  simp only [Bool.and_eq_true] at h
  unfold St.nb
  exact ⟨name_or h.2.2.1, name_or h.2.2.2.1, exRZ_nb h.2.2.2.2.2.1, exRZ_nb h.2.2.2.2.1, stsR_nb h.2.2.2.2.2.2.2.2.1, stsR_nb h.2.2.2.2.2.2.2.2.2⟩
theorem stsR_nb : ∀ {l : List St} {d : Nat}, stsR isName l d = true → St.nbs l
 | [], _, _ => by unfold St.nbs; trivial
 | s :: r, d, h => by
  unfold stsR at h
  rw [Bool.and_eq_true] at h
  unfold St.nbs
  exact ⟨stR_nb h.1, stsR_nb h.2⟩
end
theorem deR_nb {d : De} (h : deR isName d = true) : d.nb := by
 unfold deR at h
 simp only [Bool.and_eq_true, Bool.or_eq_true, decide_eq_true_eq] at h
 refine ⟨name_le h.1, ?_⟩
 rcases h.2.1 with h6 | h0
 ·have h3 := h.2.2
  rw [h6] at h3
  simp only [show ¬ (6 : Int) = 1 by decide, show ¬ ((6 : Int) = 2 ∨ (6 : Int) = 5) by decide, show ¬ ((6 : Int) = 3 ∨ (6 : Int) = 4) by decide, if_false, if_true, Bool.and_eq_true] at h3
  exact stsR_nb h3.2
 ·rw [List.length_eq_zero_iff.1 h0]
  unfold St.nbs
  trivial
theorem desR_nb {l : List De} (h : desR isName l = true) : ∀ d ∈ l, d.nb := fun d hd => deR_nb (List.all_eq_true.1 h d hd)
end Go.Proofs.YtjmlmelcppbefaaGreatDoor
namespace Go.Proofs.YtjmlmelcppbefaaGreatDoor
theorem name_16 {s : ByteArray} (h : isName s = true) : s.size ≤ 16 := by
 unfold isName at h
 simp only [Bool.and_eq_true, decide_eq_true_eq] at h
 exact h.2.1
section
variable {T : List Wd}
end
end Go.Proofs.YtjmlmelcppbefaaGreatDoor
