/- W1: texts of one kind, one behind the other. No condition but what each law says. -/
import Derived.Test.YtjmlmelcppbefaaGreatDoorV1
import Derived.Test.YtjmlmelcppbefaaGreatDoorT35
namespace Go.Proofs.YtjmlmelcppbefaaGreatDoor
open Go.RowKit
mutual
def Ex.big : Ex → Nat
  | .mk _ _ s _ _ _ args => Ex.bigL args (1 + s.size)
def Ex.bigL : List Ex → Nat → Nat
  | [], n => n
  | e :: r, n => if n ≤ 3000 then Ex.bigL r (n + e.big) else n
end
mutual
def St.big : St → Nat
  | .mk _ _ _ s t x y b e _ _ _ _ => 1 + s.size + t.size + x.big + y.big + St.bigL b 0 + St.bigL e 0
def St.bigL : List St → Nat → Nat
  | [], n => n
  | s :: r, n => if n ≤ 3000 then St.bigL r (n + s.big) else n
end
def deBig : List De → Nat → Nat
  | [], n => n
  | d :: r, n => if n ≤ 3000 then deBig r (n + (1 + d.name.size + St.bigL d.body 0)) else n
def fewB (l : List De) : Bool := decide (deBig l 0 ≤ 3000)
theorem bigL_gt {n : Nat} (h : ¬ n ≤ 3000) : ∀ l, Ex.bigL l n = n
  | [] => by simp [Ex.bigL]
  | _ :: _ => by simp [Ex.bigL, h]
theorem sbigL_gt {n : Nat} (h : ¬ n ≤ 3000) : ∀ l, St.bigL l n = n
  | [] => by simp [St.bigL]
  | _ :: _ => by simp [St.bigL, h]
theorem deBig_gt {n : Nat} (h : ¬ n ≤ 3000) : ∀ l, deBig l n = n
  | [] => by simp [deBig]
  | _ :: _ => by simp [deBig, h]
theorem bigL_drop {l : List Ex} {i n : Nat} (h : i < l.length) (hn : n ≤ 3000) : Ex.bigL (l.drop i) n = Ex.bigL (l.drop (i + 1)) (n + (l.getD i zEx).big) := by
  rw [List.drop_eq_getElem_cons h, Ex.bigL, if_pos hn]
  simp [List.getD_eq_getElem?_getD, h]
theorem sbigL_drop {l : List St} {i n : Nat} (h : i < l.length) (hn : n ≤ 3000) : St.bigL (l.drop i) n = St.bigL (l.drop (i + 1)) (n + (l.getD i default).big) := by
  rw [List.drop_eq_getElem_cons h, St.bigL, if_pos hn]
  simp [List.getD_eq_getElem?_getD, h]
theorem deBig_drop {l : List De} {i n : Nat} (h : i < l.length) (hn : n ≤ 3000) : deBig (l.drop i) n = deBig (l.drop (i + 1)) (n + (1 + (l.getD i default).name.size + St.bigL (l.getD i default).body 0)) := by
  rw [List.drop_eq_getElem_cons h, deBig, if_pos hn]
  simp [List.getD_eq_getElem?_getD, h]
mutual
theorem big_cnt : ∀ e : Ex, e.big ≤ 3000 → e.big = e.cnt
  | .mk _ _ s _ _ _ args, h => by
    rw [Ex.big] at h ⊢
    rw [bigL_cnt args _ h, Ex.cnt]
theorem bigL_cnt : ∀ (l : List Ex) (n : Nat), Ex.bigL l n ≤ 3000 → Ex.bigL l n = n + Ex.cnts l
  | [], n, _ => by simp [Ex.bigL, Ex.cnts]
  | e :: r, n, h => by
    rw [Ex.bigL] at h ⊢
    split at h
    · rename_i hn
      have ih := bigL_cnt r _ h
      rw [if_pos hn, ih, big_cnt e (by omega), Ex.cnts]
      omega
    · omega
end
mutual
theorem sbig_cnt : ∀ s : St, s.big ≤ 3000 → s.big = s.cnt
  | .mk _ _ _ s t x y b e _ _ _ _, h => by
    rw [St.big] at h ⊢
    rw [big_cnt x (by omega), big_cnt y (by omega), sbigL_cnt b 0 (by omega), sbigL_cnt e 0 (by omega), St.cnt]
    omega
theorem sbigL_cnt : ∀ (l : List St) (n : Nat), St.bigL l n ≤ 3000 → St.bigL l n = n + St.cnts l
  | [], n, _ => by simp [St.bigL, St.cnts]
  | s :: r, n, h => by
    rw [St.bigL] at h ⊢
    split at h
    · rename_i hn
      have ih := sbigL_cnt r _ h
      rw [if_pos hn, ih, sbig_cnt s (by omega), St.cnts]
      omega
    · omega
end
theorem deBig_cnt : ∀ (l : List De) (n : Nat), deBig l n ≤ 3000 → deBig l n = n + desCnt l
  | [], n, _ => by simp [deBig, desCnt]
  | d :: r, n, h => by
    rw [deBig] at h ⊢
    split at h
    · rename_i hn
      have ih := deBig_cnt r _ h
      rw [if_pos hn, ih, sbigL_cnt d.body 0 (by omega), desCnt, deCnt]
      omega
    · omega
theorem bigL_max {B : Nat} : ∀ (l : List Ex) (n : Nat), (∀ j, j < l.length → (l.getD j zEx).big ≤ B) → Ex.bigL l n ≤ max n (3000 + B)
  | [], n, _ => by simp only [Ex.bigL]; omega
  | e :: r, n, h => by
    rw [Ex.bigL]
    split
    · have h0 := h 0 (by simp)
      have ih := bigL_max r (n + e.big) (fun j hj => by have := h (j + 1) (by simpa using hj); simpa using this)
      simp only [List.getD_cons_zero] at h0
      omega
    · omega
theorem sbigL_max {B : Nat} : ∀ (l : List St) (n : Nat), (∀ j, j < l.length → (l.getD j default).big ≤ B) → St.bigL l n ≤ max n (3000 + B)
  | [], n, _ => by simp only [St.bigL]; omega
  | e :: r, n, h => by
    rw [St.bigL]
    split
    · have h0 := h 0 (by simp)
      have ih := sbigL_max r (n + e.big) (fun j hj => by have := h (j + 1) (by simpa using hj); simpa using this)
      simp only [List.getD_cons_zero] at h0
      omega
    · omega
def Ex.sm : Nat → Ex → Prop
  | 0, _ => False
  | d + 1, .mk _ _ s _ _ _ args => s.size ≤ 16 ∧ ∀ j, j < args.length → Ex.sm d (args.getD j zEx)
theorem sm_big : ∀ (d : Nat) (e : Ex), e.sm d → e.big ≤ 17 + 3000 * d
  | 0, _, h => h.elim
  | d + 1, .mk _ _ s _ _ _ args, h => by
    unfold Ex.sm at h
    rw [Ex.big]
    have := bigL_max args (1 + s.size) (fun j hj => sm_big d _ (h.2 j hj))
    omega
def St.sm : Nat → St → Prop
  | 0, _ => False
  | k + 1, .mk _ _ _ s t x y b e _ _ _ _ => s.size ≤ 16 ∧ t.size ≤ 16 ∧ x.sm 24 ∧ y.sm 24 ∧ (∀ j, j < b.length → St.sm k (b.getD j default)) ∧ ∀ j, j < e.length → St.sm k (e.getD j default)
def sB : Nat → Nat
  | 0 => 0
  | k + 1 => 2 * sB k + 160000
theorem ssm_big : ∀ (k : Nat) (s : St), s.sm k → s.big ≤ sB k
  | 0, _, h => h.elim
  | k + 1, .mk _ _ _ s t x y b e _ _ _ _, h => by
    unfold St.sm at h
    obtain ⟨h1, h2, h3, h4, h5, h6⟩ := h
    rw [St.big, sB]
    have hx := sm_big 24 x h3
    have hy := sm_big 24 y h4
    have hb := sbigL_max b 0 (fun j hj => ssm_big k _ (h5 j hj))
    have he := sbigL_max e 0 (fun j hj => ssm_big k _ (h6 j hj))
    omega
theorem sB_24 : sB 24 ≤ 5000000000000 := by decide
theorem sB_mono : ∀ {j k : Nat}, j ≤ k → sB j ≤ sB k
  | j, 0, h => by obtain rfl : j = 0 := by omega
                  exact Nat.le_refl _
  | j, k + 1, h => by
    by_cases hj : j ≤ k
    · have := sB_mono hj
      rw [sB]
      omega
    · obtain rfl : j = k + 1 := by omega
      exact Nat.le_refl _
end Go.Proofs.YtjmlmelcppbefaaGreatDoor
namespace Go.Proofs.YtjmlmelcppbefaaGreatDoor
open Go.RowKit
theorem name_16o {c : Prop} [Decidable c] {s : ByteArray} (h : (if c then isName s else decide (s = noB)) = true) : s.size ≤ 16 := by
  split at h
  · exact name_16 h
  · simp only [decide_eq_true_eq] at h
    subst h
    decide
theorem exR_sm : ∀ (d : Nat) (e : Ex), exR isName e d = true → e.sm d
  | 0, .mk k n s sl lo o args, h => by
    rw [exR_eq] at h
    simp at h
  | d + 1, .mk k n s sl lo o args, h => by
    rw [exR_eq] at h
    simp only [Bool.and_eq_true] at h
    unfold Ex.sm
    refine ⟨name_16o h.2.2.2.1, fun j hj => ?_⟩
    have hl := h.2.2.2.2.2.2
    unfold exsR at hl
    refine exR_sm d _ (List.all_eq_true.1 hl _ ?_)
    rw [List.getD_eq_getElem?_getD, List.getElem?_eq_getElem hj]
    exact List.getElem_mem hj
theorem exZ_sm {e : Ex} (h : exZ e = true) : e.sm 24 := by
  obtain ⟨k, n, s, sl, lo, o, args⟩ := e
  simp only [exZ, Bool.and_eq_true, decide_eq_true_eq] at h
  obtain ⟨-, -, rfl, -, h5⟩ := h
  unfold Ex.sm
  exact ⟨by decide, fun j hj => by omega⟩
theorem exRZ_sm {c : Prop} [Decidable c] {e : Ex} (h : (if c then exR isName e 24 else exZ e) = true) : e.sm 24 := by
  split at h
  · exact exR_sm _ _ h
  · exact exZ_sm h
theorem stsR_all {d : Nat} : ∀ {l : List St}, stsR isName l d = true → ∀ j, j < l.length → stR isName (l.getD j default) d = true
  | [], _, j, hj => by cases hj
  | s :: r, h, j, hj => by
    unfold stsR at h
    rw [Bool.and_eq_true] at h
    cases j with
    | zero => exact h.1
    | succ j => simpa using stsR_all h.2 j (by simpa using hj)
theorem stR_sm : ∀ (k d : Nat) (s : St), d + k = 25 → stR isName s d = true → s.sm k
  | 0, d, .mk _ _ _ s t x y b e _ _ _ _, hd, h => by
    unfold stR at h
    simp only [Bool.and_eq_true, decide_eq_true_eq] at h
    omega
  | k + 1, d, .mk _ _ _ s t x y b e _ _ _ _, hd, h => by
    unfold stR at h
    simp only [Bool.and_eq_true, decide_eq_true_eq] at h
    unfold St.sm
    exact ⟨name_16o h.2.2.1, name_16o h.2.2.2.1, exRZ_sm h.2.2.2.2.2.1, exRZ_sm h.2.2.2.2.1, fun j hj => stR_sm k (d + 1) _ (by omega) (stsR_all h.2.2.2.2.2.2.2.2.1 j hj), fun j hj => stR_sm k (d + 1) _ (by omega) (stsR_all h.2.2.2.2.2.2.2.2.2 j hj)⟩
theorem deR_sm {d : De} (h : deR isName d = true) : d.name.size ≤ 16 ∧ ∀ j, j < d.body.length → (d.body.getD j default).sm 24 := by
  unfold deR at h
  simp only [Bool.and_eq_true, Bool.or_eq_true, decide_eq_true_eq] at h
  refine ⟨name_16 h.1, ?_⟩
  rcases h.2.1 with h6 | h0
  · have h3 := h.2.2
    rw [h6] at h3
    simp only [show ¬ (6 : Int) = 1 by decide, show ¬ ((6 : Int) = 2 ∨ (6 : Int) = 5) by decide, show ¬ ((6 : Int) = 3 ∨ (6 : Int) = 4) by decide, if_false, if_true, Bool.and_eq_true] at h3
    exact fun j hj => stR_sm 24 1 _ rfl (stsR_all h3.2 j hj)
  · exact fun j hj => by omega
end Go.Proofs.YtjmlmelcppbefaaGreatDoor
namespace Go.Proofs.YtjmlmelcppbefaaGreatDoor
open Go.RowKit
theorem sm_depth : ∀ {d : Nat} {e : Ex}, e.sm d → e.depth ≤ d
  | 0, _, h => h.elim
  | d + 1, .mk _ _ s _ _ _ args, h => by
    unfold Ex.sm at h
    rw [Ex.depth]
    have := (depths_le d args).2 fun j hj => sm_depth (h.2 j hj)
    omega
end Go.Proofs.YtjmlmelcppbefaaGreatDoor
