/- Texts laid together. No condition but what each law says. -/
import Derived.Test.YtgppcdfgdaggjaaGreatDoorQ13
import Derived.Test.YtgppcdfgdaggjaaGreatDoorQ12
import Derived.Test.YtgppcdfgdaggjaaGreatDoorQ14
import Derived.Test.YtgppcdfgdaggjaaGreatDoorQ24
import Derived.Test.YtgppcdfgdaggjaaGreatDoorQ26
import Derived.Test.YtgppcdfgdaggjaaGreatDoorQ25
import Derived.Test.YtgppcdfgdaggjaaGreatDoorQ01
import Derived.Test.YtgppcdfgdaggjaaGreatDoorQ32
import Derived.Test.YtgppcdfgdaggjaaGreatDoorQ22
import Derived.Test.YtgppcdfgdaggjaaGreatDoorQ20
namespace Go.Proofs.YtgppcdfgdaggjaaGreatDoor
open Go.RowKit
def WdOk (T : List Wd) : Prop := ∀ i, (kindAt T i = 1 → isName (T.getD i default).text = true) ∧ (0 ≤ (T.getD i default).num ∧ (T.getD i default).num ≤ 2147483647)
theorem wKind_1 {s : ByteArray} {p : Nat} (w : p < s.size) (h : wKind s p = 1) (g : wErr s p = 0) : isName (s.extract p (wEnd s p)) = true := by
 have N := wEnd_gt w g
 have H := wEnd_le w
 have D := extract_while isAny s p
 unfold wKind at h
 unfold wErr at g
 have j : isLet (byte s p) = true := by
  cases j : isLet (byte s p) with
  | true => rfl
  | false => rw [j] at h; simp only [Bool.false_eq_true, if_false] at h; split at h <;> cases h
 have G : wEnd s p = endOf isAny s p := by unfold wEnd; rw [if_pos j]
 rw [if_pos j] at h g
 rw [G] at N H ⊢
 have C : isKw (s.extract p (endOf isAny s p)).data.toList = false := by
  cases J : isKw (s.extract p (endOf isAny s p)).data.toList with
  | false => rfl
  | true => rw [J] at h; cases h
 rw [C] at g
 simp only [Bool.false_eq_true, if_false] at g
 have M : (s.extract p (endOf isAny s p)).size = endOf isAny s p - p := by rw [ByteArray.size_extract]; omega
 have E : endOf isAny s p - p ≤ 16 := by
  rcases Nat.lt_or_ge 16 (endOf isAny s p - p) with A | A
  ·rw [if_pos A] at g; cases g
  ·exact A
 have F : (s.extract p (endOf isAny s p)).data.toList.all isAny = true := by rw [D]; exact List.all_takeWhile
 have K : byte (s.extract p (endOf isAny s p)) 0 = byte s p := by
  unfold byte
  rw [D]
  have e := drop_byte w
  rw [e, List.takeWhile_cons_of_pos (by unfold isAny; rw [j]; rfl)]
  rfl
 unfold isName
 rw [M, K, j, F, C, decide_eq_true (by omega), decide_eq_true E]
 rfl
theorem lexR_ok (s : ByteArray) : WdOk (lexR s).1 := by
 intro i
 refine ⟨fun h => ?_, num_bd s i⟩
 have g := kind_lt _ (by rw [h]; decide)
 obtain ⟨p, w, A, j⟩ := lexR_all (List.getElem_mem g)
 have e : (lexR s).1.getD i default = tokW s p := by rw [List.getD_eq_getElem?_getD, List.getElem?_eq_getElem g]; exact j
 rw [kindAt, if_pos g, e] at h
 rw [e]
 exact wKind_1 w h A
def Eok (e : Ex) : Prop := ∀ d, e.depth ≤ d → exR isName e d = true
theorem eok0 {k n : Int} {s : ByteArray} {o : Int} (h : ∀ d, 1 ≤ d → exR isName (.mk k n s 0 false o []) d = true) : Eok (.mk k n s 0 false o []) := fun d hd => h d (by rwa [dep1] at hd)
theorem eok_num {n : Int} (h : 0 ≤ n ∧ n ≤ 2147483647) : Eok (exNum n) := eok0 fun d hd => by
 simp [exR, hd, h.1, h.2]
theorem eok_name {s : ByteArray} (h : isName s = true) : Eok (exName s) := eok0 fun d hd => by
 simp [exR, hd, h]
theorem eok_cell {s : ByteArray} {x : Ex} (h : isName s = true) (g : Eok x) : Eok (exCell s x) := fun d hd => by
 unfold exCell at hd ⊢
 rw [dep2] at hd
 simp [exR, h, g (d - 1) (by omega), show 1 ≤ d by omega]
theorem eok_neg {x : Ex} (g : Eok x) : Eok (exNeg x) := fun d hd => by
 unfold exNeg at hd ⊢
 rw [dep2] at hd
 simp [exR, g (d - 1) (by omega), show 1 ≤ d by omega]
theorem eok_not {x : Ex} (g : Eok x) : Eok (exNot x) := fun d hd => by
 unfold exNot at hd ⊢
 rw [dep2] at hd
 simp [exR, g (d - 1) (by omega), show 1 ≤ d by omega]
theorem eok_bin {j : Nat} {x y : Ex} (h : 1 ≤ j ∧ j ≤ 11) (w : Eok x) (A : Eok y) : Eok (exBin j x y) := fun d hd => by
 unfold exBin at hd ⊢
 rw [dep3] at hd
 have C : (1 : Int) ≤ (j : Int) := by omega
 have g : (j : Int) ≤ 11 := by omega
 simp [exR, w (d - 1) (by omega), A (d - 1) (by omega), show 1 ≤ d by omega, C, g]
theorem opOf_lt (s : ByteArray) : opOf s ≤ 11 := by
 unfold opOf
 rcases hf : (List.range 12).find? fun o => decide (opS.getD o noB = s) with _ | k
 ·exact Nat.zero_le _
 ·have := List.mem_of_find?_eq_some hf
  simp only [List.mem_range] at this
  show k ≤ 11
  omega
section
variable {T : List Wd}
theorem opAt_le (i : Nat) : opAt T i ≤ 11 := by
 unfold opAt
 split
 ·exact opOf_lt _
 ·exact Nat.zero_le _
theorem pName_may (w : WdOk T) {i j : Nat} {s : ByteArray} (h : pName T i = some (.ok (s, j))) : isName s = true := by
 unfold pName at h
 split at h
 ·rename_i g
  cases h
  exact (w i).1 g
 ·cases h
theorem pE_may (F : WdOk T) : ∀ f,
  (∀ n i x j, pE T f n i = some (.ok (x, j)) → Eok x) ∧ (∀ n m l i x j, Eok l → pL T f n m l i = some (.ok (x, j)) → Eok x) ∧
  (∀ i x j, pU T f i = some (.ok (x, j)) → Eok x) ∧ (∀ i x j, pP T f i = some (.ok (x, j)) → Eok x) := by
 intro f
 induction f with
 | zero => exact ⟨fun _ _ _ _ h => by simp [pE] at h, fun _ _ _ _ _ _ _ h => by simp [pL] at h, fun _ _ _ h => by simp [pU] at h, fun _ _ _ h => by simp [pP] at h⟩
 | succ f K =>
  obtain ⟨A, E, C, N⟩ := K
  refine ⟨fun n i x j h => ?_, fun n m l i x j G h => ?_, fun i x j h => ?_, fun i x j h => ?_⟩
  ·rw [pE] at h
   obtain ⟨l, k, w, g⟩ := andT_inv h
   exact E _ _ _ _ _ _ (C _ _ _ w) g
  ·rw [pL] at h
   split at h
   ·cases h
    exact G
   ·rename_i R
    obtain ⟨y, k, w, g⟩ := andT_inv h
    have := opAt_le (T := T) i
    exact E _ _ _ _ _ _ (eok_bin ⟨by omega, this⟩ G (A _ _ _ _ w)) g
  ·rw [pU] at h
   split at h
   ·obtain ⟨y, k, w, g⟩ := andT_inv h
    cases g
    exact eok_neg (C _ _ _ w)
   split at h
   ·obtain ⟨y, k, w, g⟩ := andT_inv h
    cases g
    exact eok_not (C _ _ _ w)
   ·exact N _ _ _ h
  ·rw [pP] at h
   split at h
   ·obtain ⟨y, k, w, g⟩ := andT_inv h
    obtain ⟨_, m, -, Q⟩ := andT_inv g
    cases Q
    exact A _ _ _ _ w
   split at h
   ·cases h
    exact eok_num (F i).2
   ·obtain ⟨s, k, w, g⟩ := andT_inv h
    have D := pName_may F w
    split at g
    ·obtain ⟨y, m, J, H⟩ := andT_inv g
     obtain ⟨_, q, -, M⟩ := andT_inv H
     cases M
     exact eok_cell D (A _ _ _ _ J)
    ·cases g
     exact eok_name D
theorem pX_may (g : WdOk T) {i j : Nat} {x : Ex} (h : pX T i = some (.ok (x, j))) : Eok x := (pE_may g _).1 _ _ _ _ h
end
def Sok (s : St) : Prop := ∀ d, s.deep d = none → stR isName s d = true
def Ssok (l : List St) : Prop := ∀ d, St.deeps l d = none → stsR isName l d = true
theorem ssok_nil : Ssok [] := fun _ _ => by unfold stsR; rfl
theorem ssok_app : ∀ {l m : List St}, Ssok l → Ssok m → Ssok (l ++ m)
 | [], _, _, h => h
 | s :: r, m, h1, h2 => by
  intro d hd
  have H : ∀ (l : List St), St.deeps (l ++ m) d = none → St.deeps l d = none ∧ St.deeps m d = none := by
   intro l
   induction l with
   | nil => intro h; exact ⟨by simp [St.deeps], h⟩
   | cons x q g =>
    intro h
    rw [List.cons_append] at h
    simp only [St.deeps] at h ⊢
    cases j : x.deep d with
    | some p => rw [j] at h; cases h
    | none => rw [j] at h; exact g h
  have R : ∀ (l : List St), stsR isName l d = true → stsR isName m d = true → stsR isName (l ++ m) d = true := by
   intro l
   induction l with
   | nil => intro _ h; exact h
   | cons x q g =>
    intro h C
    rw [List.cons_append]
    simp only [stsR, Bool.and_eq_true] at h ⊢
    exact ⟨h.1, g h.2 C⟩
  obtain ⟨A, w⟩ := H _ hd
  exact R _ (h1 d A) (h2 d w)
theorem ssok_one {s : St} (h : Sok s) : Ssok [s] := fun d hd => by
 simp only [St.deeps] at hd
 simp only [stsR, Bool.and_true]
 apply h d
 cases g : s.deep d with
 | some p => rw [g] at hd; cases hd
 | none => rfl
theorem zEx_z : exZ zEx = true := by decide
theorem sok_mk {k : Int} {p : Int × Int} {s t : ByteArray} {x y : Ex} {b e : List St} (A : 1 ≤ k ∧ k ≤ 15) (G : (if nName k = true then isName s else decide (s = noB)) = true) (H : (if nWith k = true then isName t else decide (t = noB)) = true)
  (w : if k = 3 then Eok y else y = zEx) (j : if nExpr k = true then Eok x else x = zEx) (K : (k = 4 ∨ k = 5) ∨ b = []) (E : k = 4 ∨ e = []) (J : Ssok b) (N : Ssok e) : Sok (mkSt k p s t x y b e) := by
 intro d hd
 unfold mkSt at hd ⊢
 simp only [St.deep] at hd
 split at hd
 ·cases hd
 rename_i R
 have C : St.deeps b (d + 1) = none := by
  cases j : St.deeps b (d + 1) with
  | some q => rw [j] at hd; cases hd
  | none => rfl
 rw [C] at hd
 have M := hd
 unfold stR
 rw [G, H, decide_eq_true A.1, decide_eq_true A.2, decide_eq_true (show d ≤ 24 by omega), J _ C, N _ M]
 have Q : (if k = 3 then exR isName y 24 else exZ y) = true := by
  split at w
  ·rename_i g
   rw [if_pos g]
   exact w 24 (by omega)
  ·rename_i g
   rw [if_neg g, w]
   exact zEx_z
 have F : (if nExpr k = true then exR isName x 24 else exZ x) = true := by
  split at j
  ·rename_i g
   rw [if_pos g]
   exact j 24 (by omega)
  ·rename_i g
   rw [if_neg g, j]
   exact zEx_z
 have g : ((decide (k = 4) || decide (k = 5)) || decide (b.length = 0)) = true := by
  rcases K with (h | h) | h <;> simp [h]
 have D : (decide (k = 4) || decide (e.length = 0)) = true := by
  rcases E with h | h <;> simp [h]
 rw [Q, F, g, D]
 rfl
theorem stOf_k (t : ByteArray) : stOf t < 16 ∧ stOf t ≠ 2 ∧ stOf t ≠ 3 := by
 unfold stOf
 rcases hf : (List.range 16).find? fun k => decide (stW.getD k noB ≠ noB) && decide (stW.getD k noB = t) with _ | k
 ·decide
 ·have j := List.mem_of_find?_eq_some hf
  have g := List.find?_some hf
  simp only [List.mem_range] at j
  simp only [Bool.and_eq_true, decide_eq_true_eq] at g
  refine ⟨j, fun h => ?_, fun h => ?_⟩
  ·simp only [Option.getD_some] at h
   subst h
   exact g.1 (by decide)
  ·simp only [Option.getD_some] at h
   subst h
   exact g.1 (by decide)
section
variable {T : List Wd}
theorem pPlain_may (F : WdOk T) {p : Int × Int} {k i j : Nat} {s : St} (Q : k < 16 ∧ k ≠ 0 ∧ k ≠ 2 ∧ k ≠ 3 ∧ k ≠ 4 ∧ k ≠ 5) (h : pPlain T p k i = some (.ok (s, j))) : Sok s := by
 have g := ssok_nil
 unfold pPlain at h
 split at h
 ·obtain ⟨_, _, -, w⟩ := andT_inv h
  cases w
  exact sok_mk (by decide) (by decide) (by decide) rfl rfl (.inr rfl) (.inr rfl) g g
 split at h
 ·obtain ⟨x, _, H, w⟩ := andT_inv h
  obtain ⟨_, _, -, C⟩ := andT_inv w
  cases C
  exact sok_mk (by decide) (by decide) (by decide) rfl (pX_may F H) (.inr rfl) (.inr rfl) g g
 obtain ⟨s, N, H, w⟩ := andT_inv h
 have D := pName_may F H
 split at w
 ·obtain ⟨_, m, C, E⟩ := andT_inv w
  obtain ⟨x, _, M, K⟩ := andT_inv E
  obtain ⟨_, _, -, A⟩ := andT_inv K
  cases A
  exact sok_mk (by decide) D (by decide) rfl (pX_may F M) (.inr rfl) (.inr rfl) g g
 split at w
 ·rename_i G
  obtain ⟨t, m, C, E⟩ := andT_inv w
  have J := pName_may F C
  obtain ⟨_, _, -, A⟩ := andT_inv E
  cases A
  rcases G with rfl | rfl
  ·exact sok_mk (by decide) D J rfl rfl (.inr rfl) (.inr rfl) g g
  ·exact sok_mk (by decide) D J rfl rfl (.inr rfl) (.inr rfl) g g
 split at w
 ·obtain ⟨x, m, C, E⟩ := andT_inv w
  obtain ⟨_, _, -, A⟩ := andT_inv E
  cases A
  exact sok_mk (by decide) D (by decide) rfl (pX_may F C) (.inr rfl) (.inr rfl) g g
 ·obtain ⟨_, _, -, A⟩ := andT_inv w
  cases A
  have G : k = 6 ∨ k = 7 ∨ k = 9 ∨ k = 10 ∨ k = 13 := by omega
  rcases G with rfl | rfl | rfl | rfl | rfl <;> exact sok_mk (by decide) D (by decide) rfl rfl (.inr rfl) (.inr rfl) g g
theorem pAssign_may (w : WdOk T) {p : Int × Int} {i j : Nat} {s : St} (h : pAssign T p i = some (.ok (s, j))) : Sok s := by
 have g := ssok_nil
 unfold pAssign at h
 obtain ⟨s, N, J, D⟩ := andT_inv h
 have G := pName_may w J
 split at D
 ·obtain ⟨y, m, H, M⟩ := andT_inv D
  obtain ⟨_, n, -, K⟩ := andT_inv M
  obtain ⟨_, q, -, F⟩ := andT_inv K
  obtain ⟨x, r, C, E⟩ := andT_inv F
  obtain ⟨_, _, -, A⟩ := andT_inv E
  cases A
  exact sok_mk (by decide) G (by decide) (pX_may w H) (pX_may w C) (.inr rfl) (.inr rfl) g g
 ·obtain ⟨_, q, -, F⟩ := andT_inv D
  obtain ⟨x, r, C, E⟩ := andT_inv F
  obtain ⟨_, _, -, A⟩ := andT_inv E
  cases A
  exact sok_mk (by decide) G (by decide) rfl (pX_may w C) (.inr rfl) (.inr rfl) g g
theorem pS_may (C : WdOk T) : ∀ f,
  (∀ i l j, pB T f i = some (.ok (l, j)) → Ssok l) ∧ (∀ acc i l j, Ssok acc → pSs T f acc i = some (.ok (l, j)) → Ssok l) ∧ (∀ i s j, pS T f i = some (.ok (s, j)) → Sok s) := by
 intro f
 induction f with
 | zero => exact ⟨fun _ _ _ h => by simp [pB] at h, fun _ _ _ _ _ h => by simp [pSs] at h, fun _ _ _ h => by simp [pS] at h⟩
 | succ f K =>
  obtain ⟨E, G, J⟩ := K
  refine ⟨fun i l j h => ?_, fun acc i l j H h => ?_, fun i s j h => ?_⟩
  ·rw [pB] at h
   obtain ⟨_, k, -, w⟩ := andT_inv h
   exact G _ _ _ _ ssok_nil w
  ·rw [pSs] at h
   split at h
   ·cases h
    exact H
   ·obtain ⟨s, k, A, w⟩ := andT_inv h
    exact G _ _ _ _ (ssok_app H (ssok_one (J _ _ _ A))) w
  ·rw [pS] at h
   split at h
   ·exact pAssign_may C h
   split at h
   ·cases h
   rename_i S M
   split at h
   ·obtain ⟨x, k, A, w⟩ := andT_inv h
    obtain ⟨b, m, D, g⟩ := andT_inv w
    cases g
    exact sok_mk (by decide) (by decide) (by decide) rfl (pX_may C A) (.inl (.inr rfl)) (.inr rfl) (E _ _ _ D) ssok_nil
   rename_i R
   split at h
   ·obtain ⟨x, k, A, w⟩ := andT_inv h
    obtain ⟨b, m, D, g⟩ := andT_inv w
    split at g
    ·obtain ⟨c, q, Q, N⟩ := andT_inv g
     cases N
     exact sok_mk (by decide) (by decide) (by decide) rfl (pX_may C A) (.inl (.inl rfl)) (.inl rfl) (E _ _ _ D) (E _ _ _ Q)
    ·cases g
     exact sok_mk (by decide) (by decide) (by decide) rfl (pX_may C A) (.inl (.inl rfl)) (.inl rfl) (E _ _ _ D) ssok_nil
   ·rename_i g
    have F := stOf_k (T.getD i default).text
    exact pPlain_may C ⟨F.1, fun e => M (.inr e), F.2.1, F.2.2, g, R⟩ h
theorem pNumb_may (g : WdOk T) {i j : Nat} {n : Int} (h : pNumb T i = some (.ok (n, j))) : 0 ≤ n ∧ n ≤ 2147483647 := by
 unfold pNumb at h
 split at h
 ·cases h
  exact (g i).2
 ·cases h
theorem deAt_k (i : Nat) : deAt T i < 7 := by
 unfold deAt
 rcases hf : (List.range 7).find? fun k => decide (k ≠ 0) && isT T i (deW.getD k noB) with _ | k
 ·decide
 ·have g := List.mem_of_find?_eq_some hf
  simp only [List.mem_range] at g
  exact g
theorem pD_may (H : WdOk T) {i j : Nat} {d : De} (h : pD T i = some (.ok (d, j))) (hd : St.deeps d.body 1 = none) : deR isName d = true := by
 unfold pD at h
 split at h
 ·cases h
 rename_i S
 have R := deAt_k (T := T) i
 obtain ⟨s, Q, N, w⟩ := andT_inv h
 have E := pName_may H N
 split at w
 ·obtain ⟨_, m, -, G⟩ := andT_inv w
  split at G
  ·obtain ⟨n, _, C, F⟩ := andT_inv G
   obtain ⟨_, _, -, A⟩ := andT_inv F
   have D := pNumb_may H C
   cases A
   have J : (-2147483647 : Int) ≤ -n := by omega
   have M : (-n : Int) ≤ 2147483647 := by omega
   simp [deR, mkDe, E, J, M]
  ·obtain ⟨n, _, C, F⟩ := andT_inv G
   obtain ⟨_, _, -, A⟩ := andT_inv F
   have D := pNumb_may H C
   cases A
   have J : (-2147483647 : Int) ≤ n := by omega
   simp [deR, mkDe, E, J, D.2]
 split at w
 ·rename_i g
  obtain ⟨n, _, C, F⟩ := andT_inv w
  obtain ⟨_, _, -, A⟩ := andT_inv F
  have D := pNumb_may H C
  cases A
  rcases g with g | g <;> simp [deR, mkDe, E, D.1, D.2, g]
 split at w
 ·obtain ⟨b, q, G, C⟩ := andT_inv w
  cases C
  have K := (pS_may H _).1 _ _ _ G 1 hd
  simp [deR, mkDe, E, K]
 ·obtain ⟨_, _, -, A⟩ := andT_inv w
  cases A
  have g : deAt T i = 3 ∨ deAt T i = 4 := by omega
  rcases g with g | g <;> simp [deR, mkDe, E, g]
theorem pDs_may (E : WdOk T) : ∀ f acc i l j, (∀ d ∈ acc, St.deeps d.body 1 = none → deR isName d = true) → pDs T f acc i = some (.ok (l, j)) → ∀ d ∈ l, St.deeps d.body 1 = none → deR isName d = true := by
 intro f
 induction f with
 | zero => intro acc i l j _ h; simp [pDs] at h
 | succ f C =>
  intro acc i l j w h
  rw [pDs] at h
  split at h
  ·obtain ⟨d, k, D, A⟩ := andT_inv h
   refine C _ _ _ _ ?_ A
   intro e g hd
   rcases List.mem_append.1 g with g | g
   ·exact w e g hd
   ·obtain rfl : e = d := by simpa using g
    exact pD_may E D hd
  ·cases h
   exact w
end
theorem deep_none : ∀ {l : List De}, deDeep l = none → ∀ d ∈ l, St.deeps d.body 1 = none
 | [], _, d, h => by cases h
 | e :: r, h, d, hd => by
  rw [deDeep] at h
  cases g : St.deeps e.body 1 with
  | some p => rw [g] at h; cases h
  | none =>
   rw [g] at h
   rcases List.mem_cons.1 hd with rfl | hd
   ·exact g
   ·exact deep_none h d hd
theorem read_may (s : ByteArray) : desR isName (parseR s).1 = true := by
 have A := lexR_ok s
 unfold parseR
 split
 ·split
  ·rename_i l j w
   split
   ·rfl
   ·rename_i hd
    unfold desR
    rw [List.all_eq_true]
    exact fun d g => pDs_may A _ _ _ _ _ (fun d hd => by cases hd) w d g (deep_none hd d g)
  ·rfl
  ·rfl
 ·rfl
theorem name_le {s : ByteArray} (h : isName s = true) : s.size ≤ 9223372036854775807 := by
 unfold isName at h
 simp only [Bool.and_eq_true, decide_eq_true_eq] at h
 omega
theorem name_or {c : Bool} {s : ByteArray} (h : (if c = true then isName s else decide (s = noB)) = true) : s.size ≤ 9223372036854775807 := by
 split at h
 ·exact name_le h
 ·simp only [decide_eq_true_eq] at h
  subst h
  decide
mutual
theorem exR_nb : ∀ {e : Ex} {d : Nat}, exR isName e d = true → e.nb
 | .mk k n s sl lo o args, d, h => by
  rw [exR_eq] at h
  simp only [Bool.and_eq_true] at h
  unfold Ex.nb
  refine ⟨?_, exsR_nb h.2.2.2.2.2.2⟩
  have h4 := h.2.2.2.1
  split at h4
  ·exact name_le h4
  ·simp only [decide_eq_true_eq] at h4
   subst h4
   decide
theorem exsR_nb : ∀ {l : List Ex} {d : Nat}, exsR isName l d = true → Ex.nbs l
 | [], _, _ => by unfold Ex.nbs; trivial
 | x :: r, d, h => by
  unfold exsR at h
  rw [List.all_cons, Bool.and_eq_true] at h
  unfold Ex.nbs
  exact ⟨exR_nb h.1, exsR_nb (d := d) h.2⟩
end
theorem exZ_nb : ∀ {e : Ex}, exZ e = true → e.nb
 | .mk k n s sl lo o args, h => by
  simp only [exZ, Bool.and_eq_true, decide_eq_true_eq] at h
  obtain ⟨-, -, rfl, -, g⟩ := h
  obtain rfl := List.length_eq_zero_iff.1 g
  unfold Ex.nb Ex.nbs
  exact ⟨by decide, trivial⟩
theorem exRZ_nb {c : Prop} [Decidable c] {e : Ex} (h : (if c then exR isName e 24 else exZ e) = true) : e.nb := by
 split at h
 ·exact exR_nb h
 ·exact exZ_nb h
mutual
theorem stR_nb : ∀ {s : St} {d : Nat}, stR isName s d = true → s.nb
 | .mk k l c s t x y b e _ _ _ _, d, h => by
  unfold stR at h
  simp only [Bool.and_eq_true] at h
  unfold St.nb
  exact ⟨name_or h.2.2.1, name_or h.2.2.2.1, exRZ_nb h.2.2.2.2.2.1, exRZ_nb h.2.2.2.2.1, stsR_nb h.2.2.2.2.2.2.2.2.1, stsR_nb h.2.2.2.2.2.2.2.2.2⟩
theorem stsR_nb : ∀ {l : List St} {d : Nat}, stsR isName l d = true → St.nbs l
 | [], _, _ => by unfold St.nbs; trivial
 | s :: r, d, h => by
  unfold stsR at h
  rw [Bool.and_eq_true] at h
  unfold St.nbs
  exact ⟨stR_nb h.1, stsR_nb h.2⟩
end
theorem deR_nb {d : De} (h : deR isName d = true) : d.nb := by
 unfold deR at h
 simp only [Bool.and_eq_true, Bool.or_eq_true, decide_eq_true_eq] at h
 refine ⟨name_le h.1, ?_⟩
 rcases h.2.1 with j | w
 ·have g := h.2.2
  rw [j] at g
  simp only [show ¬ (6 : Int) = 1 by decide, show ¬ ((6 : Int) = 2 ∨ (6 : Int) = 5) by decide, show ¬ ((6 : Int) = 3 ∨ (6 : Int) = 4) by decide, if_false, if_true, Bool.and_eq_true] at g
  exact stsR_nb g.2
 ·rw [List.length_eq_zero_iff.1 w]
  unfold St.nbs
  trivial
theorem desR_nb {l : List De} (h : desR isName l = true) : ∀ d ∈ l, d.nb := fun d hd => deR_nb (List.all_eq_true.1 h d hd)
end Go.Proofs.YtgppcdfgdaggjaaGreatDoor
namespace Go.Proofs.YtgppcdfgdaggjaaGreatDoor
section
variable {T : List Wd}
end
end Go.Proofs.YtgppcdfgdaggjaaGreatDoor
set_option maxRecDepth 100000
namespace Go.Proofs.YtgppcdfgdaggjaaGreatDoor
open Go.RowKit
def kT1 : ByteArray := ⟨#[118, 97, 114, 32, 120, 32, 61, 32, 49, 59, 32, 116, 104, 114, 101, 97, 100, 32, 109, 97, 105, 110, 32, 123, 32, 108, 101, 116, 32, 121, 32, 61, 32, 120, 59, 32, 120, 32, 61, 32, 121, 32, 43, 32, 49, 59, 32, 112, 114, 105, 110, 116, 32, 120, 59, 32, 125]⟩
def kT2 : ByteArray := ⟨#[116, 104, 114, 101, 97, 100, 32, 109, 97, 105, 110, 32, 123, 32, 120, 32, 61, 32, 49, 59, 32, 125]⟩
def kW1 : List Wd := [⟨3, ⟨#[118, 97, 114]⟩, 0, 1, 1⟩, ⟨1, ⟨#[120]⟩, 0, 1, 5⟩, ⟨4, ⟨#[61]⟩, 0, 1, 7⟩, ⟨2, ⟨#[49]⟩, 1, 1, 9⟩, ⟨4, ⟨#[59]⟩, 0, 1, 10⟩, ⟨3, ⟨#[116, 104, 114, 101, 97, 100]⟩, 0, 1, 12⟩, ⟨1, ⟨#[109, 97, 105, 110]⟩, 0, 1, 19⟩, ⟨4, ⟨#[123]⟩, 0, 1, 24⟩, ⟨3, ⟨#[108, 101, 116]⟩, 0, 1, 26⟩, ⟨1, ⟨#[121]⟩, 0, 1, 30⟩, ⟨4, ⟨#[61]⟩, 0, 1, 32⟩, ⟨1, ⟨#[120]⟩, 0, 1, 34⟩, ⟨4, ⟨#[59]⟩, 0, 1, 35⟩, ⟨1, ⟨#[120]⟩, 0, 1, 37⟩, ⟨4, ⟨#[61]⟩, 0, 1, 39⟩, ⟨1, ⟨#[121]⟩, 0, 1, 41⟩, ⟨4, ⟨#[43]⟩, 0, 1, 43⟩, ⟨2, ⟨#[49]⟩, 1, 1, 45⟩, ⟨4, ⟨#[59]⟩, 0, 1, 46⟩, ⟨3, ⟨#[112, 114, 105, 110, 116]⟩, 0, 1, 48⟩, ⟨1, ⟨#[120]⟩, 0, 1, 54⟩, ⟨4, ⟨#[59]⟩, 0, 1, 55⟩, ⟨4, ⟨#[125]⟩, 0, 1, 57⟩]
def kW2 : List Wd := [⟨3, ⟨#[116, 104, 114, 101, 97, 100]⟩, 0, 1, 1⟩, ⟨1, ⟨#[109, 97, 105, 110]⟩, 0, 1, 8⟩, ⟨4, ⟨#[123]⟩, 0, 1, 13⟩, ⟨1, ⟨#[120]⟩, 0, 1, 15⟩, ⟨4, ⟨#[61]⟩, 0, 1, 17⟩, ⟨2, ⟨#[49]⟩, 1, 1, 19⟩, ⟨4, ⟨#[59]⟩, 0, 1, 20⟩, ⟨4, ⟨#[125]⟩, 0, 1, 22⟩]
def kL1 : List De := [⟨1, 1, 1, ⟨#[120]⟩, 1, []⟩, ⟨6, 1, 12, ⟨#[109, 97, 105, 110]⟩, 0, [.mk 1 1 26 ⟨#[121]⟩ noB (.mk 2 0 ⟨#[120]⟩ 0 false 0 []) zEx [] [] 0 0 0 false, .mk 2 1 37 ⟨#[120]⟩ noB (.mk 6 0 noB 0 false 7 [(.mk 2 0 ⟨#[121]⟩ 0 false 0 []), (.mk 1 1 noB 0 false 0 [])]) zEx [] [] 0 0 0 false, .mk 15 1 48 noB noB (.mk 2 0 ⟨#[120]⟩ 0 false 0 []) zEx [] [] 0 0 0 false]⟩]
def kL2 : List De := [⟨6, 1, 1, ⟨#[109, 97, 105, 110]⟩, 0, [.mk 2 1 15 ⟨#[120]⟩ noB (.mk 1 1 noB 0 false 0 []) zEx [] [] 0 0 0 false]⟩]
theorem klex1 : lexR kT1 = (kW1, (0, 0), 0) := lexR_of 70 (by decide) (by decide) (by kernel_rfl)
theorem klex2 : lexR kT2 = (kW2, (0, 0), 0) := lexR_of 40 (by decide) (by decide) (by kernel_rfl)
theorem kpd1 : pDs kW1 24 [] 0 = some (.ok (kL1, 23)) := by kernel_rfl
theorem kpd2 : pDs kW2 9 [] 0 = some (.ok (kL2, 8)) := by kernel_rfl
theorem kde1 : deDeep kL1 = none := by kernel_rfl
theorem kde2 : deDeep kL2 = none := by kernel_rfl
theorem kpa1 : parseR kT1 = (kL1, (0, 0), 0) := by
 unfold parseR
 rw [klex1]
 dsimp only
 rw [if_pos rfl, show kW1.length + 1 = 24 from rfl, kpd1]
 dsimp only
 rw [kde1]
theorem kpa2 : parseR kT2 = (kL2, (0, 0), 0) := by
 unfold parseR
 rw [klex2]
 dsimp only
 rw [if_pos rfl, show kW2.length + 1 = 9 from rfl, kpd2]
 dsimp only
 rw [kde2]
def fiR (l : List De) : Pg × (Int × Int) × Int := if desR isName l = true then findR l else (zPg, (0, 0), 2)
theorem kmay1 : desR isName kL1 = true := by kernel_rfl
theorem kmay2 : desR isName kL2 = true := by kernel_rfl
theorem kfi1 : (findR kL1).2 = ((0, 0), 0) ∧ (findR kL1).1.stmts = 3 ∧ (findR kL1).1.vars.length = 1 ∧ ((findR kL1).1.threads.map (·.locals)) = [1] := ⟨by kernel_rfl, by kernel_rfl, by kernel_rfl, by kernel_rfl⟩
theorem kfi2 : findR kL2 = (zPg, (1, 15), 131) := by kernel_rfl
theorem ktx1 : textR fiR kT1 = findR kL1 := by
 unfold textR fiR
 rw [kpa1]
 simp only [kmay1]
 rfl
theorem ktx2 : textR fiR kT2 = (zPg, (1, 15), 131) := by
 unfold textR fiR
 rw [kpa2]
 simp only [kmay2, kfi2]
 rfl
end Go.Proofs.YtgppcdfgdaggjaaGreatDoor
set_option maxRecDepth 100000
set_option maxHeartbeats 8000000
namespace Go.Proofs.YtgppcdfgdaggjaaGreatDoor
open Go.RowKit Go.Maps
structure Wn (w : World) : Prop where
 o : Ops w
 h : Shs w
 e : ErrR w
theorem Wn.below {w w' : World} (h : Wn w) (g : bL w w') : Wn w' := ⟨h.o.below g, h.h.below g, h.e.below g h.e.1⟩
theorem ptext_all (s : ByteArray) (w : World) (H : Wn w) : Calls Tryz.prog 10 #[.string s] w (FOk w (textR fiR s)) :=
 ptext_any isName s w H.e H.o fun W a cap j g hd => check_any _ a cap W g (H.below j).h hd (desR_nb (read_may s))
theorem known_any (w : World) (H : Wn w) : Calls Tryz.prog 9 #[] w (Yes w) := by
 obtain ⟨e4, e5, d3, d1, d2⟩ := zero30
 obtain ⟨e3, e1, a9, b5, b6⟩ := zero32
 have HW := O H
 clear H
 have a7 := ptext_all kT1 w HW.out
 rw [ktx1] at a7
 go_enter Tryz.func9, Tryz.ntmps9
 refine wk fun Y D => ?_
 go_wp2_with fail
 refine D.out _ _ ?_
 clear D Y
 refine wk fun Y D => ?_
 go_wp2_with fail
 refine a7.mono ?_
 clear a7
 rintro e W1 ⟨⟨F, rfl, M⟩, J⟩
 have a8 := O J
 have b4 := O M
 have d9 := O M.cells
 clear J M
 obtain ⟨b1, c9⟩ : ∃ b, W1.heap.size = b := ⟨_, rfl⟩
 go_wp2_with (first
  | ((with_reducible refine at1 1 (.alloc 30) ?_); refine wpList_alloc_blk d3 d1 d2 rfl rfl b1 c9 ?_; intro W2 U b2 s2; have X := O U; have G := O b2; clear U b2)
  | ((with_reducible refine at1 2 (.alloc 32) ?_); refine wpList_alloc_blk a9 b5 b6 rfl rfl (b1 + 1) s2 ?_; intro W3 k3 b3 s3; have Z := O k3; have K := O b3; clear k3 b3)
  | ((with_reducible refine at0 (.store 30 (.tmp 1) _) ?_); refine wpList_store_ch info30 rfl (.tmp 1) (.tmp 9) rfl b1 F _ rfl rfl (X.out.below K.out) rfl d9.out ?_; intro W4 k4 c4; have C := O (And.intro k4 c4); clear k4 c4)
  | ((with_reducible refine at0 (.store 32 (.tmp 2) _) ?_); refine wpList_store_ch info32a rfl (.tmp 2) (.tmp 10) rfl (b1 + 1) [.int .i64 (findR kL1).2.1.1, .int .i64 (findR kL1).2.1.2] _ rfl rfl (C.out.2.blk (by omega) Z.out) rfl (two_one _ _) ?_; intro W k5 c5; have E := O (And.intro k5 c5); clear k5 c5)
  | fail)
 refine D.out _ _ ?_
 clear D Y
 have a3 : Hid (Below W1.heap.size W1 W) := O (E.out.2.below (by omega) (C.out.2.below (by omega) (G.out.trans (K.out.mono G.out.size))))
 have N : Hid (Below w.heap.size w W ∧ Blk W b1 30 F ∧ PgRL (fun _ => True) W (findR kL1).1 F) := O ⟨a8.out.trans (a3.out.mono a8.out.size), E.out.2.blk (by omega) C.out.1, (b4.out.keep fun b o u _ S => below_cell a3.out b o u S).weak fun _ _ => trivial⟩
 clear X G Z K C E a3 b4 a8 s2 s3 c9
 have a4 := ptext_all kT2 W (HW.out.below N.out.1)
 rw [ktx2] at a4
 refine wk fun Y D => ?_
 go_wp2_with fail
 refine a4.mono ?_
 clear a4
 rintro e R ⟨⟨d7, rfl, M⟩, J⟩
 have V : Hid (Below w.heap.size w R ∧ Blk R b1 30 F ∧ PgRL (fun _ => True) R (findR kL1).1 F) := O ⟨N.out.1.trans (J.mono N.out.1.size), N.out.2.1.below J, N.out.2.2.keep fun b o u _ S => below_cell J b o u S⟩
 have d6 := O M.cells
 clear J M N
 obtain ⟨b2, d0⟩ : ∃ b, R.heap.size = b := ⟨_, rfl⟩
 go_wp2_with (first
  | ((with_reducible refine at1 4 (.alloc 30) ?_); refine wpList_alloc_blk d3 d1 d2 rfl rfl b2 d0 ?_; intro W7 U b2 s2; have X := O U; have G := O b2; clear U b2)
  | ((with_reducible refine at1 5 (.alloc 32) ?_); refine wpList_alloc_blk a9 b5 b6 rfl rfl (b2 + 1) s2 ?_; intro W8 k3 b3 s3; have Z := O k3; have K := O b3; clear k3 b3)
  | ((with_reducible refine at0 (.store 30 (.tmp 4) _) ?_); refine wpList_store_ch info30 rfl (.tmp 4) (.tmp 14) rfl b2 d7 _ rfl rfl (X.out.below K.out) rfl d6.out ?_; intro W9 k4 c4; have C := O (And.intro k4 c4); clear k4 c4)
  | ((with_reducible refine at0 (.store 32 (.tmp 5) _) ?_); refine wpList_store_ch info32a rfl (.tmp 5) (.tmp 15) rfl (b2 + 1) [.int .i64 1, .int .i64 15] _ rfl rfl (C.out.2.blk (by omega) Z.out) rfl (two_one _ _) ?_; intro A k5 c5; have E := O (And.intro k5 c5); clear k5 c5)
  | fail)
 refine D.out _ _ ?_
 clear D Y
 have a1 : Hid (Below R.heap.size R A) := O (E.out.2.below (by omega) (C.out.2.below (by omega) (G.out.trans (K.out.mono G.out.size))))
 have Q : Hid (Below w.heap.size w A ∧ Blk A b1 30 F ∧ PgRL (fun _ => True) A (findR kL1).1 F) := O ⟨V.out.1.trans (a1.out.mono V.out.1.size), V.out.2.1.below a1.out, V.out.2.2.keep fun b o u _ S => below_cell a1.out b o u S⟩
 have HQ := O E.out.1
 clear X G Z K C E a1 V s2 s3 d0
 obtain ⟨v0, v1, v4, v5, n0, n1, n2, n3, n4, a2, a6⟩ := Q.out.2.2
 obtain ⟨a0, c0, b8, -, -⟩ := id a6.vars
 obtain ⟨a5, c5, b9, -, c8⟩ := id a6.threads
 have d5 : ∃ t, (findR kL1).1.threads[0]? = some t ∧ t.locals = 1 := by
  have j := kfi1.2.2.2
  cases hq : (findR kL1).1.threads with
  | nil => rw [hq] at j; cases j
  | cons t r =>
   rw [hq] at j
   simp only [List.map_cons, List.cons.injEq] at j
   exact ⟨t, rfl, j.1⟩
 have b7 : (findR kL1).1.threads.length = 1 := by
  have j := congrArg List.length kfi1.2.2.2
  simpa using j
 obtain ⟨t, ht, d4⟩ := d5
 obtain ⟨g, of, cs, rfl, -, hr, d8⟩ := c8 0 t ht
 obtain ⟨xa, xc, rfl, -, -⟩ := d8
 rw [kfi1.2.2.1] at b8
 rw [b7] at b9
 subst b8 b9
 have p7 : A.cell? ⟨b1, 7, none⟩ = some (.int .i64 3) := (Q.out.2.1.cell 7).trans (by rw [a2]; exact congrArg (fun n : Nat => some (Value.int .i64 (n : Int))) kfi1.2.1)
 have p0 : A.cell? ⟨b1, 0, none⟩ = some (.slice a0 1 c0) := (Q.out.2.1.cell 0).trans (by rw [a2]; rfl)
 have p5 : A.cell? ⟨b1, 5, none⟩ = some (.slice (some ⟨g, of, none⟩) 1 c5) := (Q.out.2.1.cell 5).trans (by rw [a2]; rfl)
 have e2 : A.cell? ⟨g, of + 1, none⟩ = some (.int .i64 1) := by
  have j := World.cellF_cell (hr 1 _ rfl)
  rw [d4] at j
  simpa using j
 have q0 : A.cell? ⟨b2 + 1, 0, none⟩ = some (.int .i64 1) := HQ.out.cell 0
 have q1 : A.cell? ⟨b2 + 1, 1, none⟩ = some (.int .i64 15) := HQ.out.cell 1
 have e0 : (findR kL1).2.2 = 0 := by rw [kfi1.1]
 have HE := O Q.out.1
 clear a2 a6 c8 b7 ht d4 hr Q
 try simp only [e0]
 go_wp2_with fail
 go_ret
 exact ⟨rfl, HE.out⟩
end Go.Proofs.YtgppcdfgdaggjaaGreatDoor
