/- V1: texts of one kind, one behind the other. No condition but what each law says. -/
import Derived.Test.YtjmlmelcppbefaaGreatDoorT10
import Derived.Test.YtjmlmelcppbefaaGreatDoorX1
import Derived.Test.YtjmlmelcppbefaaGreatDoorT22
import Derived.Test.YtjmlmelcppbefaaGreatDoorT30
import Derived.Test.YtjmlmelcppbefaaGreatDoorT40
namespace Go.Proofs.YtjmlmelcppbefaaGreatDoor
open Go.RowKit
mutual
def Ex.cnt : Ex → Nat
 | .mk _ _ s _ _ _ args => 1 + s.size + Ex.cnts args
def Ex.cnts : List Ex → Nat
 | [] => 0
 | e :: r => e.cnt + Ex.cnts r
end
mutual
def St.cnt : St → Nat
 | .mk _ _ _ s t x y b e _ _ _ _ => 1 + s.size + t.size + x.cnt + y.cnt + St.cnts b + St.cnts e
def St.cnts : List St → Nat
 | [] => 0
 | s :: r => s.cnt + St.cnts r
end
def deCnt (d : De) : Nat := 1 + d.name.size + St.cnts d.body
def desCnt : List De → Nat
 | [] => 0
 | d :: r => deCnt d + desCnt r
theorem size_l (s : ByteArray) : s.data.toList.length = s.size := Array.length_toList
theorem op_le (o : Nat) : (opS.getD o noB).data.toList.length ≤ 2 := by
 by_cases h : o < 12
 ·have : ∀ j : Fin 12, (opS.getD j.val noB).data.toList.length ≤ 2 := by decide
  exact this ⟨o, h⟩
 ·rw [List.getD_eq_getElem?_getD, List.getElem?_eq_none (by show opS.length ≤ o; simp [opS]; omega)]
  decide
theorem st_le (k : Nat) : (stW.getD k noB).data.toList.length ≤ 6 := by
 by_cases h : k < 16
 ·have : ∀ j : Fin 16, (stW.getD j.val noB).data.toList.length ≤ 6 := by decide
  exact this ⟨k, h⟩
 ·rw [List.getD_eq_getElem?_getD, List.getElem?_eq_none (by show stW.length ≤ k; simp [stW]; omega)]
  decide
theorem par_le (b n : Nat) (t : List UInt8) : (par b n t).length ≤ t.length + 2 := by
 unfold par
 split
 ·simp
 ·omega
theorem exT_le (nm : ByteArray → Bool) : ∀ (e : Ex) (d : Nat), exR nm e d = true → (exT e).length ≤ 30 * e.cnt
 | .mk k n s sl lo o [], d, h => by
  simp only [exR, Bool.and_eq_true, Bool.or_eq_true, decide_eq_true_eq] at h
  simp only [exT, Ex.cnt, Ex.cnts]
  split
  ·rename_i hk
   have hn : 0 ≤ n ∧ n ≤ 2147483647 := by
    rcases h.2.2.2.2 with h | h
    ·exact h.2
    ·omega
   have := Lib.itoa_length_le n (by omega) (by omega)
   omega
  ·rw [size_l]
   omega
 | .mk k n s sl lo o [x], d, h => by
  simp only [exR, Bool.and_eq_true] at h
  have hx := exT_le nm x (d - 1) h.2.2.2.2.2
  have hp := par_le x.bind 6 (exT x)
  simp only [exT, Ex.cnt, Ex.cnts]
  split
  ·simp only [List.length_append, List.length_cons, List.length_nil, size_l]
   omega
  ·simp only [List.length_cons]
   omega
 | .mk k n s sl lo o [x, y], d, h => by
  simp only [exR, Bool.and_eq_true] at h
  have hx := exT_le nm x (d - 1) h.2.2.2.2.2.1
  have hy := exT_le nm y (d - 1) h.2.2.2.2.2.2
  have hp := par_le x.bind (if rankOf o.toNat = 3 then 4 else rankOf o.toNat) (exT x)
  have hq := par_le y.bind (rankOf o.toNat + 1) (exT y)
  have ho := op_le o.toNat
  simp only [exT, Ex.cnt, Ex.cnts, List.length_append, List.length_cons]
  omega
 | .mk k n s sl lo o (x :: y :: z :: r), d, h => by
  simp only [exT, List.length_nil]
  omega
theorem exR_of (nm : ByteArray → Bool) {k : Int} {x : Ex} (h : (if nExpr k = true then exR nm x 24 else exZ x) = true) (hk : nExpr k = true) : (exT x).length ≤ 30 * x.cnt := by
 rw [if_pos hk] at h
 exact exT_le nm x 24 h
mutual
theorem stT_le (nm : ByteArray → Bool) : ∀ (s : St) (d n : Nat), stR nm s d = true → n ≤ d → (stT s n).length + n + 1 ≤ 200 * s.cnt
 | .mk k l c s t x y b e _ _ _ _, d, n, h, hn => by
  unfold stR at h
  simp only [Bool.and_eq_true, decide_eq_true_eq] at h
  obtain ⟨-, hd, -, -, hy, hx, -, -, hb, he⟩ := h
  have b1 := blT_cnt nm b (d + 1) (n + 1) hb (by omega)
  have b2 := blT_cnt nm e (d + 1) (n + 1) he (by omega)
  have hw := st_le k.toNat
  rw [size_l] at hw
  have htb : (tabs n).length = n := by simp [tabs]
  have hX := exR_of nm hx
  simp only [St.cnt]
  unfold stT
  split
  ·rename_i hk
   have := hX (by rw [hk]; decide)
   simp only [List.length_append, List.length_cons, List.length_nil, size_l]
   omega
  split
  ·rename_i hk
   have := hX (by rw [hk]; decide)
   simp only [List.length_append, List.length_cons, List.length_nil, size_l]
   omega
  split
  ·rename_i hk
   have := hX (by rw [hk]; decide)
   rw [if_pos hk] at hy
   have := exT_le nm y 24 hy
   simp only [List.length_append, List.length_cons, List.length_nil, size_l]
   omega
  split
  ·rename_i hk
   have := hX (by rw [hk]; decide)
   split <;> simp only [List.length_append, List.length_cons, List.length_nil, htb] <;> omega
  split
  ·rename_i hk
   have := hX (by rw [hk]; decide)
   simp only [List.length_append, List.length_cons, List.length_nil, htb]
   omega
  split
  ·simp only [List.length_append, List.length_cons, List.length_nil, size_l]
   omega
  split
  ·rename_i hk
   have := hX (by rw [hk]; decide)
   simp only [List.length_append, List.length_cons, List.length_nil, size_l]
   omega
  split
  ·simp only [List.length_cons, List.length_nil]
   omega
  split
  ·rename_i hk
   have := hX (by rw [hk]; decide)
   simp only [List.length_append, List.length_cons, List.length_nil]
   omega
  ·simp only [List.length_append, List.length_cons, List.length_nil, size_l]
   omega
theorem blT_cnt (nm : ByteArray → Bool) : ∀ (l : List St) (d n : Nat), stsR nm l d = true → n ≤ d → (blT l n).length ≤ 200 * St.cnts l
 | [], _, _, _, _ => by simp [blT]
 | s :: r, d, n, h, hn => by
  unfold stsR at h
  rw [Bool.and_eq_true] at h
  have h1 := stT_le nm s d n h.1 hn
  have h2 := blT_cnt nm r d n h.2 hn
  have htb : (tabs n).length = n := by simp [tabs]
  simp only [blT, St.cnts, List.length_append, List.length_cons, List.length_nil, htb]
  omega
end
theorem deT_le (nm : ByteArray → Bool) {d : De} (h : deR nm d = true) : (deT d).length ≤ 200 * deCnt d := by
 obtain ⟨k, l, c, s, n, b⟩ := d
 unfold deR at h
 simp only [Bool.and_eq_true] at h
 have h3 := h.2.2
 unfold deT deCnt
 simp only at h3 ⊢
 split
 ·rename_i hk
  rw [if_pos hk] at h3
  simp only [Bool.and_eq_true, decide_eq_true_eq] at h3
  have := Lib.itoa_length_le n (by omega) (by omega)
  simp only [List.length_append, List.length_cons, List.length_nil, size_l]
  omega
 rename_i h1
 rw [if_neg h1] at h3
 split
 ·rename_i hk
  rw [if_pos (.inl hk)] at h3
  simp only [Bool.and_eq_true, decide_eq_true_eq] at h3
  have := Lib.itoa_length_le n (by omega) (by omega)
  simp only [List.length_append, List.length_cons, List.length_nil, size_l]
  omega
 split
 ·simp only [List.length_append, List.length_cons, List.length_nil, size_l]
  omega
 split
 ·simp only [List.length_append, List.length_cons, List.length_nil, size_l]
  omega
 split
 ·rename_i hk
  rw [if_pos (.inr hk)] at h3
  simp only [Bool.and_eq_true, decide_eq_true_eq] at h3
  have := Lib.itoa_length_le n (by omega) (by omega)
  simp only [List.length_append, List.length_cons, List.length_nil, size_l]
  omega
 ·rename_i h2 h3' h4 h5
  rw [if_neg (by omega), if_neg (by omega)] at h3
  split at h3
  ·simp only [Bool.and_eq_true] at h3
   have := blT_cnt nm b 1 (0 + 1) h3.2 (Nat.le_refl _)
   simp only [blockT, tabs, List.length_append, List.length_cons, List.length_nil, List.length_replicate, size_l]
   omega
  ·cases h3
theorem prT_cnt (nm : ByteArray → Bool) : ∀ {l : List De}, desR nm l = true → (prT l).length ≤ 200 * desCnt l
 | [], _ => by simp [prT]
 | d :: r, h => by
  unfold desR at h
  rw [List.all_cons, Bool.and_eq_true] at h
  have h1 := deT_le nm h.1
  have h2 := prT_cnt nm (l := r) h.2
  have e : prT (d :: r) = deT d ++ prT r := rfl
  rw [e, List.length_append, desCnt]
  omega
def WdOk (T : List Wd) : Prop := ∀ i, (kindAt T i = 1 → isName (T.getD i default).text = true) ∧ (0 ≤ (T.getD i default).num ∧ (T.getD i default).num ≤ 2147483647)
theorem wKind_1 {s : ByteArray} {p : Nat} (hp : p < s.size) (h : wKind s p = 1) (he : wErr s p = 0) : isName (s.extract p (wEnd s p)) = true := by
 have hgt := wEnd_gt hp he
 have hle := wEnd_le hp
 have hx := extract_while isAny s p
 unfold wKind at h
 unfold wErr at he
 have hb : isLet (byte s p) = true := by
  cases hb : isLet (byte s p) with
  | true => rfl
  | false => rw [hb] at h; simp only [Bool.false_eq_true, if_false] at h; split at h <;> cases h
 have hwe : wEnd s p = endOf isAny s p := by unfold wEnd; rw [if_pos hb]
 rw [if_pos hb] at h he
 rw [hwe] at hgt hle ⊢
 have hkw : isKw (s.extract p (endOf isAny s p)).data.toList = false := by
  cases hk : isKw (s.extract p (endOf isAny s p)).data.toList with
  | false => rfl
  | true => rw [hk] at h; cases h
 rw [hkw] at he
 simp only [Bool.false_eq_true, if_false] at he
 have hsz : (s.extract p (endOf isAny s p)).size = endOf isAny s p - p := by rw [ByteArray.size_extract]; omega
 have h16 : endOf isAny s p - p ≤ 16 := by
  rcases Nat.lt_or_ge 16 (endOf isAny s p - p) with hc | hc
  ·rw [if_pos hc] at he; cases he
  ·exact hc
 have hall : (s.extract p (endOf isAny s p)).data.toList.all isAny = true := by rw [hx]; exact List.all_takeWhile
 have h0 : byte (s.extract p (endOf isAny s p)) 0 = byte s p := by
  unfold byte
  rw [hx]
  have e : s.data.toList.drop p = byte s p :: s.data.toList.drop (p + 1) := drop_byte hp
  rw [e, List.takeWhile_cons_of_pos (by unfold isAny; rw [hb]; rfl)]
  rfl
 unfold isName
 rw [hsz, h0, hb, hall, hkw, decide_eq_true (by omega), decide_eq_true h16]
 rfl
theorem lexR_ok (s : ByteArray) : WdOk (lexR s).1 := by
 intro i
 refine ⟨fun h => ?_, num_bd s i⟩
 have hi : i < (lexR s).1.length := kind_lt _ (by rw [h]; decide)
 obtain ⟨p, hp, he, ht⟩ := lexR_all (List.getElem_mem hi)
 have e : (lexR s).1.getD i default = tokW s p := by rw [List.getD_eq_getElem?_getD, List.getElem?_eq_getElem hi]; exact ht
 rw [kindAt, if_pos hi, e] at h
 rw [e]
 exact wKind_1 hp h he
def Eok (e : Ex) : Prop := ∀ d, e.depth ≤ d → exR isName e d = true
theorem eok0 {k n : Int} {s : ByteArray} {o : Int} (h : ∀ d, 1 ≤ d → exR isName (.mk k n s 0 false o []) d = true) : Eok (.mk k n s 0 false o []) := fun d hd => h d (by rwa [dep1] at hd)
theorem eok_num {n : Int} (h : 0 ≤ n ∧ n ≤ 2147483647) : Eok (exNum n) := eok0 fun d hd => by
 simp [exR, hd, h.1, h.2]
theorem eok_name {s : ByteArray} (h : isName s = true) : Eok (exName s) := eok0 fun d hd => by
 simp [exR, hd, h]
theorem eok_cell {s : ByteArray} {x : Ex} (h : isName s = true) (hx : Eok x) : Eok (exCell s x) := fun d hd => by
 unfold exCell at hd ⊢
 rw [dep2] at hd
 simp [exR, h, hx (d - 1) (by omega), show 1 ≤ d by omega]
theorem eok_neg {x : Ex} (hx : Eok x) : Eok (exNeg x) := fun d hd => by
 unfold exNeg at hd ⊢
 rw [dep2] at hd
 simp [exR, hx (d - 1) (by omega), show 1 ≤ d by omega]
theorem eok_not {x : Ex} (hx : Eok x) : Eok (exNot x) := fun d hd => by
 unfold exNot at hd ⊢
 rw [dep2] at hd
 simp [exR, hx (d - 1) (by omega), show 1 ≤ d by omega]
theorem eok_bin {op : Nat} {x y : Ex} (h : 1 ≤ op ∧ op ≤ 11) (hx : Eok x) (hy : Eok y) : Eok (exBin op x y) := fun d hd => by
 unfold exBin at hd ⊢
 rw [dep3] at hd
 have h1 : (1 : Int) ≤ (op : Int) := by omega
 have h2 : (op : Int) ≤ 11 := by omega
 simp [exR, hx (d - 1) (by omega), hy (d - 1) (by omega), show 1 ≤ d by omega, h1, h2]
theorem opOf_lt (s : ByteArray) : opOf s ≤ 11 := by
 unfold opOf
 rcases hf : (List.range 12).find? fun o => decide (opS.getD o noB = s) with _ | k
 ·exact Nat.zero_le _
 ·have := List.mem_of_find?_eq_some hf
  simp only [List.mem_range] at this
  show k ≤ 11
  omega
section
variable {T : List Wd}
theorem opAt_le (i : Nat) : opAt T i ≤ 11 := by
 unfold opAt
 split
 ·exact opOf_lt _
 ·exact Nat.zero_le _
theorem pName_may (hT : WdOk T) {i j : Nat} {s : ByteArray} (h : pName T i = some (.ok (s, j))) : isName s = true := by
 unfold pName at h
 split at h
 ·rename_i hk
  cases h
  exact (hT i).1 hk
 ·cases h
theorem pE_may (hT : WdOk T) : ∀ f,
  (∀ n i x j, pE T f n i = some (.ok (x, j)) → Eok x) ∧ (∀ n m l i x j, Eok l → pL T f n m l i = some (.ok (x, j)) → Eok x) ∧
  (∀ i x j, pU T f i = some (.ok (x, j)) → Eok x) ∧ (∀ i x j, pP T f i = some (.ok (x, j)) → Eok x) := by
 intro f
 induction f with
 | zero => exact ⟨fun _ _ _ _ h => by simp [pE] at h, fun _ _ _ _ _ _ _ h => by simp [pL] at h, fun _ _ _ h => by simp [pU] at h, fun _ _ _ h => by simp [pP] at h⟩
 | succ f ih =>
  obtain ⟨hE, hL, hU, hP⟩ := ih
  refine ⟨fun n i x j h => ?_, fun n m l i x j hl h => ?_, fun i x j h => ?_, fun i x j h => ?_⟩
  ·rw [pE] at h
   obtain ⟨l, k, h1, h2⟩ := andT_inv h
   exact hL _ _ _ _ _ _ (hU _ _ _ h1) h2
  ·rw [pL] at h
   split at h
   ·cases h
    exact hl
   ·rename_i hc
    obtain ⟨y, k, h1, h2⟩ := andT_inv h
    have := opAt_le (T := T) i
    exact hL _ _ _ _ _ _ (eok_bin ⟨by omega, this⟩ hl (hE _ _ _ _ h1)) h2
  ·rw [pU] at h
   split at h
   ·obtain ⟨y, k, h1, h2⟩ := andT_inv h
    cases h2
    exact eok_neg (hU _ _ _ h1)
   split at h
   ·obtain ⟨y, k, h1, h2⟩ := andT_inv h
    cases h2
    exact eok_not (hU _ _ _ h1)
   ·exact hP _ _ _ h
  ·rw [pP] at h
   split at h
   ·obtain ⟨y, k, h1, h2⟩ := andT_inv h
    obtain ⟨_, m, -, h5⟩ := andT_inv h2
    cases h5
    exact hE _ _ _ _ h1
   split at h
   ·cases h
    exact eok_num (hT i).2
   ·obtain ⟨s, k, h1, h2⟩ := andT_inv h
    have hs := pName_may hT h1
    split at h2
    ·obtain ⟨y, m, h3, h4⟩ := andT_inv h2
     obtain ⟨_, q, -, h7⟩ := andT_inv h4
     cases h7
     exact eok_cell hs (hE _ _ _ _ h3)
    ·cases h2
     exact eok_name hs
theorem pX_may (hT : WdOk T) {i j : Nat} {x : Ex} (h : pX T i = some (.ok (x, j))) : Eok x := (pE_may hT _).1 _ _ _ _ h
end
def Sok (s : St) : Prop := ∀ d, s.deep d = none → stR isName s d = true
def Ssok (l : List St) : Prop := ∀ d, St.deeps l d = none → stsR isName l d = true
theorem ssok_nil : Ssok [] := fun _ _ => by unfold stsR; rfl
theorem ssok_app : ∀ {l m : List St}, Ssok l → Ssok m → Ssok (l ++ m)
 | [], _, _, h => h
 | s :: r, m, h1, h2 => by
  intro d hd
  have H : ∀ (l : List St), St.deeps (l ++ m) d = none → St.deeps l d = none ∧ St.deeps m d = none := by
   intro l
   induction l with
   | nil => intro h; exact ⟨by simp [St.deeps], h⟩
   | cons x q ih =>
    intro h
    rw [List.cons_append] at h
    simp only [St.deeps] at h ⊢
    cases hx : x.deep d with
    | some p => rw [hx] at h; cases h
    | none => rw [hx] at h; exact ih h
  have R : ∀ (l : List St), stsR isName l d = true → stsR isName m d = true → stsR isName (l ++ m) d = true := by
   intro l
   induction l with
   | nil => intro _ h; exact h
   | cons x q ih =>
    intro h h'
    rw [List.cons_append]
    simp only [stsR, Bool.and_eq_true] at h ⊢
    exact ⟨h.1, ih h.2 h'⟩
  obtain ⟨h3, h4⟩ := H _ hd
  exact R _ (h1 d h3) (h2 d h4)
theorem ssok_one {s : St} (h : Sok s) : Ssok [s] := fun d hd => by
 simp only [St.deeps] at hd
 simp only [stsR, Bool.and_true]
 refine h d ?_
 cases hx : s.deep d with
 | some p => rw [hx] at hd; cases hd
 | none => rfl
theorem zEx_z : exZ zEx = true := by decide
theorem sok_mk {k : Int} {p : Int × Int} {s t : ByteArray} {x y : Ex} {b e : List St} (hk : 1 ≤ k ∧ k ≤ 15) (hs : (if nName k = true then isName s else decide (s = noB)) = true) (ht : (if nWith k = true then isName t else decide (t = noB)) = true)
  (hy : if k = 3 then Eok y else y = zEx) (hx : if nExpr k = true then Eok x else x = zEx) (hb : (k = 4 ∨ k = 5) ∨ b = []) (he : k = 4 ∨ e = []) (hbo : Ssok b) (heo : Ssok e) : Sok (mkSt k p s t x y b e) := by
 intro d hd
 unfold mkSt at hd ⊢
 simp only [St.deep] at hd
 split at hd
 ·cases hd
 rename_i hc
 have hbd : St.deeps b (d + 1) = none := by
  cases hx : St.deeps b (d + 1) with
  | some q => rw [hx] at hd; cases hd
  | none => rfl
 rw [hbd] at hd
 have hed : St.deeps e (d + 1) = none := hd
 unfold stR
 rw [hs, ht, decide_eq_true hk.1, decide_eq_true hk.2, decide_eq_true (show d ≤ 24 by omega), hbo _ hbd, heo _ hed]
 have h1 : (if k = 3 then exR isName y 24 else exZ y) = true := by
  split at hy
  ·rename_i h3
   rw [if_pos h3]
   exact hy 24 (by omega)
  ·rename_i h3
   rw [if_neg h3, hy]
   exact zEx_z
 have h2 : (if nExpr k = true then exR isName x 24 else exZ x) = true := by
  split at hx
  ·rename_i h3
   rw [if_pos h3]
   exact hx 24 (by omega)
  ·rename_i h3
   rw [if_neg h3, hx]
   exact zEx_z
 have h3 : ((decide (k = 4) || decide (k = 5)) || decide (b.length = 0)) = true := by
  rcases hb with (h | h) | h <;> simp [h]
 have h4 : (decide (k = 4) || decide (e.length = 0)) = true := by
  rcases he with h | h <;> simp [h]
 rw [h1, h2, h3, h4]
 rfl
theorem stOf_k (t : ByteArray) : stOf t < 16 ∧ stOf t ≠ 2 ∧ stOf t ≠ 3 := by
 unfold stOf
 rcases hf : (List.range 16).find? fun k => decide (stW.getD k noB ≠ noB) && decide (stW.getD k noB = t) with _ | k
 ·decide
 ·have h1 := List.mem_of_find?_eq_some hf
  have h2 := List.find?_some hf
  simp only [List.mem_range] at h1
  simp only [Bool.and_eq_true, decide_eq_true_eq] at h2
  refine ⟨h1, fun h => ?_, fun h => ?_⟩
  ·simp only [Option.getD_some] at h
   subst h
   exact h2.1 (by decide)
  ·simp only [Option.getD_some] at h
   subst h
   exact h2.1 (by decide)
section
variable {T : List Wd}
theorem pPlain_may (hT : WdOk T) {p : Int × Int} {k i j : Nat} {s : St} (hk : k < 16 ∧ k ≠ 0 ∧ k ≠ 2 ∧ k ≠ 3 ∧ k ≠ 4 ∧ k ≠ 5) (h : pPlain T p k i = some (.ok (s, j))) : Sok s := by
 have hn := ssok_nil
 unfold pPlain at h
 split at h
 ·obtain ⟨_, _, -, h2⟩ := andT_inv h
  cases h2
  exact sok_mk (by decide) (by decide) (by decide) rfl rfl (.inr rfl) (.inr rfl) hn hn
 split at h
 ·obtain ⟨x, _, h1, h2⟩ := andT_inv h
  obtain ⟨_, _, -, h4⟩ := andT_inv h2
  cases h4
  exact sok_mk (by decide) (by decide) (by decide) rfl (pX_may hT h1) (.inr rfl) (.inr rfl) hn hn
 obtain ⟨s, j1, h1, h2⟩ := andT_inv h
 have hs := pName_may hT h1
 split at h2
 ·obtain ⟨_, m, h4, h5⟩ := andT_inv h2
  obtain ⟨x, _, h7, h8⟩ := andT_inv h5
  obtain ⟨_, _, -, h9⟩ := andT_inv h8
  cases h9
  exact sok_mk (by decide) hs (by decide) rfl (pX_may hT h7) (.inr rfl) (.inr rfl) hn hn
 split at h2
 ·rename_i hc
  obtain ⟨t, m, h4, h5⟩ := andT_inv h2
  have ht := pName_may hT h4
  obtain ⟨_, _, -, h9⟩ := andT_inv h5
  cases h9
  rcases hc with rfl | rfl
  ·exact sok_mk (by decide) hs ht rfl rfl (.inr rfl) (.inr rfl) hn hn
  ·exact sok_mk (by decide) hs ht rfl rfl (.inr rfl) (.inr rfl) hn hn
 split at h2
 ·obtain ⟨x, m, h4, h5⟩ := andT_inv h2
  obtain ⟨_, _, -, h9⟩ := andT_inv h5
  cases h9
  exact sok_mk (by decide) hs (by decide) rfl (pX_may hT h4) (.inr rfl) (.inr rfl) hn hn
 ·obtain ⟨_, _, -, h9⟩ := andT_inv h2
  cases h9
  have hc : k = 6 ∨ k = 7 ∨ k = 9 ∨ k = 10 ∨ k = 13 := by omega
  rcases hc with rfl | rfl | rfl | rfl | rfl <;> exact sok_mk (by decide) hs (by decide) rfl rfl (.inr rfl) (.inr rfl) hn hn
theorem pAssign_may (hT : WdOk T) {p : Int × Int} {i j : Nat} {s : St} (h : pAssign T p i = some (.ok (s, j))) : Sok s := by
 have hn := ssok_nil
 unfold pAssign at h
 obtain ⟨s, j1, h1, h2⟩ := andT_inv h
 have hs := pName_may hT h1
 split at h2
 ·obtain ⟨y, m, h4, h5⟩ := andT_inv h2
  obtain ⟨_, n, -, h8⟩ := andT_inv h5
  obtain ⟨_, q, -, h11⟩ := andT_inv h8
  obtain ⟨x, r, h13, h14⟩ := andT_inv h11
  obtain ⟨_, _, -, h16⟩ := andT_inv h14
  cases h16
  exact sok_mk (by decide) hs (by decide) (pX_may hT h4) (pX_may hT h13) (.inr rfl) (.inr rfl) hn hn
 ·obtain ⟨_, q, -, h11⟩ := andT_inv h2
  obtain ⟨x, r, h13, h14⟩ := andT_inv h11
  obtain ⟨_, _, -, h16⟩ := andT_inv h14
  cases h16
  exact sok_mk (by decide) hs (by decide) rfl (pX_may hT h13) (.inr rfl) (.inr rfl) hn hn
theorem pS_may (hT : WdOk T) : ∀ f,
  (∀ i l j, pB T f i = some (.ok (l, j)) → Ssok l) ∧ (∀ acc i l j, Ssok acc → pSs T f acc i = some (.ok (l, j)) → Ssok l) ∧ (∀ i s j, pS T f i = some (.ok (s, j)) → Sok s) := by
 intro f
 induction f with
 | zero => exact ⟨fun _ _ _ h => by simp [pB] at h, fun _ _ _ _ _ h => by simp [pSs] at h, fun _ _ _ h => by simp [pS] at h⟩
 | succ f ih =>
  obtain ⟨hB, hSs, hS⟩ := ih
  refine ⟨fun i l j h => ?_, fun acc i l j ha h => ?_, fun i s j h => ?_⟩
  ·rw [pB] at h
   obtain ⟨_, k, -, h2⟩ := andT_inv h
   exact hSs _ _ _ _ ssok_nil h2
  ·rw [pSs] at h
   split at h
   ·cases h
    exact ha
   ·obtain ⟨s, k, h1, h2⟩ := andT_inv h
    exact hSs _ _ _ _ (ssok_app ha (ssok_one (hS _ _ _ h1))) h2
  ·rw [pS] at h
   split at h
   ·exact pAssign_may hT h
   split at h
   ·cases h
   rename_i h0 hc
   split at h
   ·obtain ⟨x, k, h1, h2⟩ := andT_inv h
    obtain ⟨b, m, h3, h4⟩ := andT_inv h2
    cases h4
    exact sok_mk (by decide) (by decide) (by decide) rfl (pX_may hT h1) (.inl (.inr rfl)) (.inr rfl) (hB _ _ _ h3) ssok_nil
   rename_i h5
   split at h
   ·obtain ⟨x, k, h1, h2⟩ := andT_inv h
    obtain ⟨b, m, h3, h4⟩ := andT_inv h2
    split at h4
    ·obtain ⟨c, q, h7, h8⟩ := andT_inv h4
     cases h8
     exact sok_mk (by decide) (by decide) (by decide) rfl (pX_may hT h1) (.inl (.inl rfl)) (.inl rfl) (hB _ _ _ h3) (hB _ _ _ h7)
    ·cases h4
     exact sok_mk (by decide) (by decide) (by decide) rfl (pX_may hT h1) (.inl (.inl rfl)) (.inl rfl) (hB _ _ _ h3) ssok_nil
   ·rename_i h4
    have h6 := stOf_k (T.getD i default).text
    exact pPlain_may hT ⟨h6.1, fun e => hc (.inr e), h6.2.1, h6.2.2, h4, h5⟩ h
theorem pNumb_may (hT : WdOk T) {i j : Nat} {n : Int} (h : pNumb T i = some (.ok (n, j))) : 0 ≤ n ∧ n ≤ 2147483647 := by
 unfold pNumb at h
 split at h
 ·cases h
  exact (hT i).2
 ·cases h
theorem deAt_k (i : Nat) : deAt T i < 7 := by
 unfold deAt
 rcases hf : (List.range 7).find? fun k => decide (k ≠ 0) && isT T i (deW.getD k noB) with _ | k
 ·decide
 ·have h1 := List.mem_of_find?_eq_some hf
  simp only [List.mem_range] at h1
  exact h1
theorem pD_may (hT : WdOk T) {i j : Nat} {d : De} (h : pD T i = some (.ok (d, j))) (hd : St.deeps d.body 1 = none) : deR isName d = true := by
 unfold pD at h
 split at h
 ·cases h
 rename_i h0
 have hk := deAt_k (T := T) i
 obtain ⟨s, j1, h1, h2⟩ := andT_inv h
 have hs := pName_may hT h1
 split at h2
 ·obtain ⟨_, m, -, h5⟩ := andT_inv h2
  split at h5
  ·obtain ⟨n, _, h6, h7⟩ := andT_inv h5
   obtain ⟨_, _, -, h8⟩ := andT_inv h7
   have hn := pNumb_may hT h6
   cases h8
   have e1 : (-2147483647 : Int) ≤ -n := by omega
   have e2 : (-n : Int) ≤ 2147483647 := by omega
   simp [deR, mkDe, hs, e1, e2]
  ·obtain ⟨n, _, h6, h7⟩ := andT_inv h5
   obtain ⟨_, _, -, h8⟩ := andT_inv h7
   have hn := pNumb_may hT h6
   cases h8
   have e1 : (-2147483647 : Int) ≤ n := by omega
   simp [deR, mkDe, hs, e1, hn.2]
 split at h2
 ·rename_i hc
  obtain ⟨n, _, h6, h7⟩ := andT_inv h2
  obtain ⟨_, _, -, h8⟩ := andT_inv h7
  have hn := pNumb_may hT h6
  cases h8
  rcases hc with hc | hc <;> simp [deR, mkDe, hs, hn.1, hn.2, hc]
 split at h2
 ·obtain ⟨b, q, h5, h6⟩ := andT_inv h2
  cases h6
  have hb := (pS_may hT _).1 _ _ _ h5 1 hd
  simp [deR, mkDe, hs, hb]
 ·obtain ⟨_, _, -, h8⟩ := andT_inv h2
  cases h8
  have hc : deAt T i = 3 ∨ deAt T i = 4 := by omega
  rcases hc with hc | hc <;> simp [deR, mkDe, hs, hc]
theorem pDs_may (hT : WdOk T) : ∀ f acc i l j, (∀ d ∈ acc, St.deeps d.body 1 = none → deR isName d = true) → pDs T f acc i = some (.ok (l, j)) → ∀ d ∈ l, St.deeps d.body 1 = none → deR isName d = true := by
 intro f
 induction f with
 | zero => intro acc i l j _ h; simp [pDs] at h
 | succ f ih =>
  intro acc i l j ha h
  rw [pDs] at h
  split at h
  ·obtain ⟨d, k, h1, h2⟩ := andT_inv h
   refine ih _ _ _ _ ?_ h2
   intro e he hd
   rcases List.mem_append.1 he with he | he
   ·exact ha e he hd
   ·obtain rfl : e = d := by simpa using he
    exact pD_may hT h1 hd
  ·cases h
   exact ha
end
theorem deep_none : ∀ {l : List De}, deDeep l = none → ∀ d ∈ l, St.deeps d.body 1 = none
 | [], _, d, h => by cases h
 | e :: r, h, d, hd => by
  rw [deDeep] at h
  cases he : St.deeps e.body 1 with
  | some p => rw [he] at h; cases h
  | none =>
   rw [he] at h
   rcases List.mem_cons.1 hd with rfl | hd
   ·exact he
   ·exact deep_none h d hd
theorem read_may (s : ByteArray) : desR isName (parseR s).1 = true := by
 have hT := lexR_ok s
 unfold parseR
 split
 ·split
  ·rename_i l j hp
   split
   ·rfl
   ·rename_i hd
    unfold desR
    rw [List.all_eq_true]
    exact fun d hm => pDs_may hT _ _ _ _ _ (fun d hd => by cases hd) hp d hm (deep_none hd d hm)
  ·rfl
  ·rfl
 ·rfl
theorem name_le {s : ByteArray} (h : isName s = true) : s.size ≤ 9223372036854775807 := by
 unfold isName at h
 simp only [Bool.and_eq_true, decide_eq_true_eq] at h
 omega
theorem name_or {c : Bool} {s : ByteArray} (h : (if c = true then isName s else decide (s = noB)) = true) : s.size ≤ 9223372036854775807 := by
 split at h
 ·exact name_le h
 ·simp only [decide_eq_true_eq] at h
  subst h
  decide
mutual
theorem exR_nb : ∀ {e : Ex} {d : Nat}, exR isName e d = true → e.nb
 | .mk k n s sl lo o args, d, h => by
  rw [exR_eq] at h
  simp only [Bool.and_eq_true] at h
  unfold Ex.nb
  refine ⟨?_, exsR_nb h.2.2.2.2.2.2⟩
  have h4 := h.2.2.2.1
  split at h4
  ·exact name_le h4
  ·simp only [decide_eq_true_eq] at h4
   subst h4
   decide
theorem exsR_nb : ∀ {l : List Ex} {d : Nat}, exsR isName l d = true → Ex.nbs l
 | [], _, _ => by unfold Ex.nbs; trivial
 | x :: r, d, h => by
  unfold exsR at h
  rw [List.all_cons, Bool.and_eq_true] at h
  unfold Ex.nbs
  exact ⟨exR_nb h.1, exsR_nb (d := d) h.2⟩
end
theorem exZ_nb : ∀ {e : Ex}, exZ e = true → e.nb
 | .mk k n s sl lo o args, h => by
  simp only [exZ, Bool.and_eq_true, decide_eq_true_eq] at h
  obtain ⟨-, -, rfl, -, h5⟩ := h
  obtain rfl := List.length_eq_zero_iff.1 h5
  unfold Ex.nb Ex.nbs
  exact ⟨by decide, trivial⟩
theorem exRZ_nb {c : Prop} [Decidable c] {e : Ex} (h : (if c then exR isName e 24 else exZ e) = true) : e.nb := by
 split at h
 ·exact exR_nb h
 ·exact exZ_nb h
mutual
theorem stR_nb : ∀ {s : St} {d : Nat}, stR isName s d = true → s.nb
 | .mk k l c s t x y b e _ _ _ _, d, h => by
  unfold stR at h
  simp only [Bool.and_eq_true] at h
  unfold St.nb
  exact ⟨name_or h.2.2.1, name_or h.2.2.2.1, exRZ_nb h.2.2.2.2.2.1, exRZ_nb h.2.2.2.2.1, stsR_nb h.2.2.2.2.2.2.2.2.1, stsR_nb h.2.2.2.2.2.2.2.2.2⟩
theorem stsR_nb : ∀ {l : List St} {d : Nat}, stsR isName l d = true → St.nbs l
 | [], _, _ => by unfold St.nbs; trivial
 | s :: r, d, h => by
  unfold stsR at h
  rw [Bool.and_eq_true] at h
  unfold St.nbs
  exact ⟨stR_nb h.1, stsR_nb h.2⟩
end
theorem deR_nb {d : De} (h : deR isName d = true) : d.nb := by
 unfold deR at h
 simp only [Bool.and_eq_true, Bool.or_eq_true, decide_eq_true_eq] at h
 refine ⟨name_le h.1, ?_⟩
 rcases h.2.1 with h6 | h0
 ·have h3 := h.2.2
  rw [h6] at h3
  simp only [show ¬ (6 : Int) = 1 by decide, show ¬ ((6 : Int) = 2 ∨ (6 : Int) = 5) by decide, show ¬ ((6 : Int) = 3 ∨ (6 : Int) = 4) by decide, if_false, if_true, Bool.and_eq_true] at h3
  exact stsR_nb h3.2
 ·rw [List.length_eq_zero_iff.1 h0]
  unfold St.nbs
  trivial
theorem desR_nb {l : List De} (h : desR isName l = true) : ∀ d ∈ l, d.nb := fun d hd => deR_nb (List.all_eq_true.1 h d hd)
end Go.Proofs.YtjmlmelcppbefaaGreatDoor
namespace Go.Proofs.YtjmlmelcppbefaaGreatDoor
theorem name_16 {s : ByteArray} (h : isName s = true) : s.size ≤ 16 := by
 unfold isName at h
 simp only [Bool.and_eq_true, decide_eq_true_eq] at h
 exact h.2.1
theorem noB_size : noB.size = 0 := rfl
theorem zEx_cnt : zEx.cnt = 1 := by simp [zEx, Ex.cnt, Ex.cnts, noB_size]
section
variable {T : List Wd}
theorem pName_cnt (hT : WdOk T) {i j : Nat} {s : ByteArray} (h : pName T i = some (.ok (s, j))) : s.size ≤ 16 ∧ j = i + 1 := ⟨name_16 (pName_may hT h), (pName_ok T h).1⟩
theorem pE_cnt (hT : WdOk T) : ∀ f,
  (∀ n i x j, pE T f n i = some (.ok (x, j)) → x.cnt + 17 * i ≤ 17 * j) ∧ (∀ n m l i i0 x j, l.cnt + 17 * i0 ≤ 17 * i → pL T f n m l i = some (.ok (x, j)) → x.cnt + 17 * i0 ≤ 17 * j) ∧
  (∀ i x j, pU T f i = some (.ok (x, j)) → x.cnt + 17 * i ≤ 17 * j) ∧ (∀ i x j, pP T f i = some (.ok (x, j)) → x.cnt + 17 * i ≤ 17 * j) := by
 intro f
 induction f with
 | zero => exact ⟨fun _ _ _ _ h => by simp [pE] at h, fun _ _ _ _ _ _ _ _ h => by simp [pL] at h, fun _ _ _ h => by simp [pU] at h, fun _ _ _ h => by simp [pP] at h⟩
 | succ f ih =>
  obtain ⟨hE, hL, hU, hP⟩ := ih
  refine ⟨fun n i x j h => ?_, fun n m l i i0 x j hl h => ?_, fun i x j h => ?_, fun i x j h => ?_⟩
  ·rw [pE] at h
   obtain ⟨l, k, h1, h2⟩ := andT_inv h
   exact hL _ _ _ _ i _ _ (hU _ _ _ h1) h2
  ·rw [pL] at h
   split at h
   ·cases h
    exact hl
   ·obtain ⟨y, k, h1, h2⟩ := andT_inv h
    have h3 := hE _ _ _ _ h1
    refine hL _ _ _ _ i0 _ _ ?_ h2
    simp only [exBin, Ex.cnt, Ex.cnts, noB_size]
    omega
  ·rw [pU] at h
   split at h
   ·obtain ⟨y, k, h1, h2⟩ := andT_inv h
    have h3 := hU _ _ _ h1
    cases h2
    simp only [exNeg, Ex.cnt, Ex.cnts, noB_size]
    omega
   split at h
   ·obtain ⟨y, k, h1, h2⟩ := andT_inv h
    have h3 := hU _ _ _ h1
    cases h2
    simp only [exNot, Ex.cnt, Ex.cnts, noB_size]
    omega
   ·exact hP _ _ _ h
  ·rw [pP] at h
   split at h
   ·obtain ⟨y, k, h1, h2⟩ := andT_inv h
    have h3 := hE _ _ _ _ h1
    obtain ⟨_, m, h4, h5⟩ := andT_inv h2
    have h6 := want_ok T h4
    cases h5
    omega
   split at h
   ·cases h
    simp only [exNum, Ex.cnt, Ex.cnts, noB_size]
    omega
   ·obtain ⟨s, k, h1, h2⟩ := andT_inv h
    have hs := pName_cnt hT h1
    split at h2
    ·obtain ⟨y, m, h3, h4⟩ := andT_inv h2
     have h5 := hE _ _ _ _ h3
     obtain ⟨_, q, h6, h7⟩ := andT_inv h4
     have h8 := want_ok T h6
     cases h7
     simp only [exCell, Ex.cnt, Ex.cnts]
     omega
    ·cases h2
     simp only [exName, Ex.cnt, Ex.cnts]
     omega
theorem pX_cnt (hT : WdOk T) {i j : Nat} {x : Ex} (h : pX T i = some (.ok (x, j))) : x.cnt + 17 * i ≤ 17 * j := (pE_cnt hT _).1 _ _ _ _ h
theorem mk_cnt (k : Int) (p : Int × Int) (s t : ByteArray) (x y : Ex) (b e : List St) : (mkSt k p s t x y b e).cnt = 1 + s.size + t.size + x.cnt + y.cnt + St.cnts b + St.cnts e := by simp [mkSt, St.cnt]
theorem cnts_app : ∀ (l m : List St), St.cnts (l ++ m) = St.cnts l + St.cnts m
 | [], m => by simp [St.cnts]
 | s :: r, m => by rw [List.cons_append, St.cnts, cnts_app r m, St.cnts]; omega
theorem pPlain_cnt (hT : WdOk T) {p : Int × Int} {k i j : Nat} {s : St} (h : pPlain T p k i = some (.ok (s, j))) : s.cnt + 17 * i ≤ 17 * j := by
 unfold pPlain at h
 split at h
 ·obtain ⟨_, _, h1, h2⟩ := andT_inv h
  have := want_ok T h1
  cases h2
  simp only [mk_cnt, zEx_cnt, noB_size, St.cnts]
  omega
 split at h
 ·obtain ⟨x, _, h1, h2⟩ := andT_inv h
  obtain ⟨_, _, h3, h4⟩ := andT_inv h2
  have := want_ok T h3
  have := pX_cnt hT h1
  cases h4
  simp only [mk_cnt, zEx_cnt, noB_size, St.cnts]
  omega
 obtain ⟨s, j1, h1, h2⟩ := andT_inv h
 have hs := pName_cnt hT h1
 split at h2
 ·obtain ⟨_, m, h4, h5⟩ := andT_inv h2
  have h6 := want_ok T h4
  obtain ⟨x, _, h7, h8⟩ := andT_inv h5
  obtain ⟨_, _, h10, h9⟩ := andT_inv h8
  have := want_ok T h10
  have := pX_cnt hT h7
  cases h9
  simp only [mk_cnt, zEx_cnt, noB_size, St.cnts]
  omega
 split at h2
 ·obtain ⟨t, m, h4, h5⟩ := andT_inv h2
  have ht := pName_cnt hT h4
  obtain ⟨_, _, h10, h9⟩ := andT_inv h5
  have := want_ok T h10
  cases h9
  simp only [mk_cnt, zEx_cnt, St.cnts]
  omega
 split at h2
 ·obtain ⟨x, m, h4, h5⟩ := andT_inv h2
  obtain ⟨_, _, h10, h9⟩ := andT_inv h5
  have := want_ok T h10
  have := pX_cnt hT h4
  cases h9
  simp only [mk_cnt, zEx_cnt, noB_size, St.cnts]
  omega
 ·obtain ⟨_, _, h10, h9⟩ := andT_inv h2
  have := want_ok T h10
  cases h9
  simp only [mk_cnt, zEx_cnt, noB_size, St.cnts]
  omega
theorem pAssign_cnt (hT : WdOk T) {p : Int × Int} {i j : Nat} {s : St} (h : pAssign T p i = some (.ok (s, j))) : s.cnt + 17 * i ≤ 17 * j := by
 unfold pAssign at h
 obtain ⟨s, j1, h1, h2⟩ := andT_inv h
 have hs := pName_cnt hT h1
 split at h2
 ·obtain ⟨y, m, h4, h5⟩ := andT_inv h2
  have h6 := pX_cnt hT h4
  obtain ⟨_, n, h7, h8⟩ := andT_inv h5
  have h9 := want_ok T h7
  obtain ⟨_, q, h10, h11⟩ := andT_inv h8
  have h12 := want_ok T h10
  obtain ⟨x, r, h13, h14⟩ := andT_inv h11
  have h15 := pX_cnt hT h13
  obtain ⟨_, _, h17, h16⟩ := andT_inv h14
  have := want_ok T h17
  cases h16
  simp only [mk_cnt, noB_size, St.cnts]
  omega
 ·obtain ⟨_, q, h10, h11⟩ := andT_inv h2
  have h12 := want_ok T h10
  obtain ⟨x, r, h13, h14⟩ := andT_inv h11
  have h15 := pX_cnt hT h13
  obtain ⟨_, _, h17, h16⟩ := andT_inv h14
  have := want_ok T h17
  cases h16
  simp only [mk_cnt, zEx_cnt, noB_size, St.cnts]
  omega
theorem pS_cnt (hT : WdOk T) : ∀ f,
  (∀ i l j, pB T f i = some (.ok (l, j)) → St.cnts l + 17 * i ≤ 17 * j) ∧ (∀ acc i i0 l j, St.cnts acc + 17 * i0 ≤ 17 * i → pSs T f acc i = some (.ok (l, j)) → St.cnts l + 17 * i0 ≤ 17 * j) ∧
  (∀ i s j, pS T f i = some (.ok (s, j)) → s.cnt + 17 * i ≤ 17 * j) := by
 intro f
 induction f with
 | zero => exact ⟨fun _ _ _ h => by simp [pB] at h, fun _ _ _ _ _ _ h => by simp [pSs] at h, fun _ _ _ h => by simp [pS] at h⟩
 | succ f ih =>
  obtain ⟨hB, hSs, hS⟩ := ih
  refine ⟨fun i l j h => ?_, fun acc i i0 l j ha h => ?_, fun i s j h => ?_⟩
  ·rw [pB] at h
   obtain ⟨_, k, h1, h2⟩ := andT_inv h
   have h3 := want_ok T h1
   exact hSs _ _ i _ _ (by simp only [St.cnts]; omega) h2
  ·rw [pSs] at h
   split at h
   ·cases h
    omega
   ·obtain ⟨s, k, h1, h2⟩ := andT_inv h
    have h3 := hS _ _ _ h1
    exact hSs _ _ i0 _ _ (by rw [cnts_app]; simp only [St.cnts]; omega) h2
  ·rw [pS] at h
   split at h
   ·exact pAssign_cnt hT h
   split at h
   ·cases h
   split at h
   ·obtain ⟨x, k, h1, h2⟩ := andT_inv h
    obtain ⟨b, m, h3, h4⟩ := andT_inv h2
    have h5 := pX_cnt hT h1
    have h6 := hB _ _ _ h3
    cases h4
    simp only [mk_cnt, zEx_cnt, noB_size, St.cnts]
    omega
   split at h
   ·obtain ⟨x, k, h1, h2⟩ := andT_inv h
    obtain ⟨b, m, h3, h4⟩ := andT_inv h2
    have h5 := pX_cnt hT h1
    have h6 := hB _ _ _ h3
    split at h4
    ·obtain ⟨c, q, h7, h8⟩ := andT_inv h4
     have h9 := hB _ _ _ h7
     cases h8
     simp only [mk_cnt, zEx_cnt, noB_size]
     omega
    ·cases h4
     simp only [mk_cnt, zEx_cnt, noB_size, St.cnts]
     omega
   ·have := pPlain_cnt hT h
    omega
theorem pNumb_at {i j : Nat} {n : Int} (h : pNumb T i = some (.ok (n, j))) : j = i + 1 := by
 unfold pNumb at h
 split at h
 ·cases h
  rfl
 ·cases h
theorem pD_cnt (hT : WdOk T) {i j : Nat} {d : De} (h : pD T i = some (.ok (d, j))) : deCnt d + 17 * i ≤ 17 * j := by
 unfold pD at h
 split at h
 ·cases h
 obtain ⟨s, j1, h1, h2⟩ := andT_inv h
 have hs := pName_cnt hT h1
 split at h2
 ·obtain ⟨_, m, h3, h5⟩ := andT_inv h2
  have := want_ok T h3
  split at h5
  ·obtain ⟨n, _, h6, h7⟩ := andT_inv h5
   obtain ⟨_, _, h9, h8⟩ := andT_inv h7
   have := want_ok T h9
   have := pNumb_at h6
   cases h8
   simp only [deCnt, mkDe, St.cnts]
   omega
  ·obtain ⟨n, _, h6, h7⟩ := andT_inv h5
   obtain ⟨_, _, h9, h8⟩ := andT_inv h7
   have := want_ok T h9
   have := pNumb_at h6
   cases h8
   simp only [deCnt, mkDe, St.cnts]
   omega
 split at h2
 ·obtain ⟨n, _, h6, h7⟩ := andT_inv h2
  obtain ⟨_, _, h9, h8⟩ := andT_inv h7
  have := want_ok T h9
  have := pNumb_at h6
  cases h8
  simp only [deCnt, mkDe, St.cnts]
  omega
 split at h2
 ·obtain ⟨b, q, h5, h6⟩ := andT_inv h2
  have hb := (pS_cnt hT _).1 _ _ _ h5
  cases h6
  simp only [deCnt, mkDe]
  omega
 ·obtain ⟨_, _, h9, h8⟩ := andT_inv h2
  have := want_ok T h9
  cases h8
  simp only [deCnt, mkDe, St.cnts]
  omega
theorem desCnt_app : ∀ (l m : List De), desCnt (l ++ m) = desCnt l + desCnt m
 | [], m => by simp [desCnt]
 | s :: r, m => by rw [List.cons_append, desCnt, desCnt_app r m, desCnt]; omega
theorem pDs_cnt (hT : WdOk T) : ∀ f acc i l j, desCnt acc ≤ 17 * i → pDs T f acc i = some (.ok (l, j)) → desCnt l ≤ 17 * j ∧ (i ≤ T.length → j ≤ T.length) := by
 intro f
 induction f with
 | zero => intro acc i l j _ h; simp [pDs] at h
 | succ f ih =>
  intro acc i l j ha h
  rw [pDs] at h
  split at h
  ·rename_i hi
   obtain ⟨d, k, h1, h2⟩ := andT_inv h
   have h3 := pD_cnt hT h1
   have h4 := pD_adv T (by omega) h1
   have h5 := ih _ _ _ _ (by rw [desCnt_app]; simp only [desCnt]; omega) h2
   exact ⟨h5.1, fun _ => h5.2 h4.2⟩
  ·cases h
   exact ⟨ha, fun h => h⟩
end
theorem read_cnt (s : ByteArray) : desCnt (parseR s).1 ≤ 17 * 65536 := by
 have hT := lexR_ok s
 have hl := lexR_len s
 unfold parseR
 split
 ·split
  ·rename_i l j hp
   split
   ·simp [desCnt]
   ·have h := pDs_cnt hT _ _ _ _ _ (by simp [desCnt]) hp
    have h2 := h.2 (by omega)
    have h1 := h.1
    dsimp only
    omega
  ·simp [desCnt]
  ·simp [desCnt]
 ·simp [desCnt]
theorem read_len (s : ByteArray) : (prT (parseR s).1).length ≤ 70368744177664 := by
 have h1 := prT_cnt isName (read_may s)
 have h2 := read_cnt s
 omega
end Go.Proofs.YtjmlmelcppbefaaGreatDoor
