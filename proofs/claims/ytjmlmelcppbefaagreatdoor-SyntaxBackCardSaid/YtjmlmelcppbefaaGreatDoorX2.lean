/- X2: texts laid one behind the other. No condition but what each law says. -/
import Derived.Test.YtjmlmelcppbefaaGreatDoorV1
import Derived.Test.YtjmlmelcppbefaaGreatDoorX1
import Derived.Test.YtjmlmelcppbefaaGreatDoorU1
namespace Go.Proofs.YtjmlmelcppbefaaGreatDoor
open Go.RowKit
mutual
def Ex.big : Ex → Nat
  | .mk _ _ s _ _ _ args => Ex.bigL args (1 + s.size)
def Ex.bigL : List Ex → Nat → Nat
  | [], n => n
  | e :: r, n => if n ≤ 3000 then Ex.bigL r (n + e.big) else n
end
mutual
def St.big : St → Nat
  | .mk _ _ _ s t x y b e _ _ _ _ => 1 + s.size + t.size + x.big + y.big + St.bigL b 0 + St.bigL e 0
def St.bigL : List St → Nat → Nat
  | [], n => n
  | s :: r, n => if n ≤ 3000 then St.bigL r (n + s.big) else n
end
def deBig : List De → Nat → Nat
  | [], n => n
  | d :: r, n => if n ≤ 3000 then deBig r (n + (1 + d.name.size + St.bigL d.body 0)) else n
def fewB (l : List De) : Bool := decide (deBig l 0 ≤ 3000)
theorem bigL_gt {n : Nat} (h : ¬ n ≤ 3000) : ∀ l, Ex.bigL l n = n
  | [] => by simp [Ex.bigL]
  | _ :: _ => by simp [Ex.bigL, h]
theorem sbigL_gt {n : Nat} (h : ¬ n ≤ 3000) : ∀ l, St.bigL l n = n
  | [] => by simp [St.bigL]
  | _ :: _ => by simp [St.bigL, h]
theorem deBig_gt {n : Nat} (h : ¬ n ≤ 3000) : ∀ l, deBig l n = n
  | [] => by simp [deBig]
  | _ :: _ => by simp [deBig, h]
theorem bigL_drop {l : List Ex} {i n : Nat} (h : i < l.length) (hn : n ≤ 3000) : Ex.bigL (l.drop i) n = Ex.bigL (l.drop (i + 1)) (n + (l.getD i zEx).big) := by
  rw [List.drop_eq_getElem_cons h, Ex.bigL, if_pos hn]
  simp [List.getD_eq_getElem?_getD, h]
theorem sbigL_drop {l : List St} {i n : Nat} (h : i < l.length) (hn : n ≤ 3000) : St.bigL (l.drop i) n = St.bigL (l.drop (i + 1)) (n + (l.getD i default).big) := by
  rw [List.drop_eq_getElem_cons h, St.bigL, if_pos hn]
  simp [List.getD_eq_getElem?_getD, h]
theorem deBig_drop {l : List De} {i n : Nat} (h : i < l.length) (hn : n ≤ 3000) : deBig (l.drop i) n = deBig (l.drop (i + 1)) (n + (1 + (l.getD i default).name.size + St.bigL (l.getD i default).body 0)) := by
  rw [List.drop_eq_getElem_cons h, deBig, if_pos hn]
  simp [List.getD_eq_getElem?_getD, h]
mutual
theorem big_cnt : ∀ e : Ex, e.big ≤ 3000 → e.big = e.cnt
  | .mk _ _ s _ _ _ args, h => by
    rw [Ex.big] at h ⊢
    rw [bigL_cnt args _ h, Ex.cnt]
theorem bigL_cnt : ∀ (l : List Ex) (n : Nat), Ex.bigL l n ≤ 3000 → Ex.bigL l n = n + Ex.cnts l
  | [], n, _ => by simp [Ex.bigL, Ex.cnts]
  | e :: r, n, h => by
    rw [Ex.bigL] at h ⊢
    split at h
    · rename_i hn
      have ih := bigL_cnt r _ h
      rw [if_pos hn, ih, big_cnt e (by omega), Ex.cnts]
      omega
    · omega
end
mutual
theorem sbig_cnt : ∀ s : St, s.big ≤ 3000 → s.big = s.cnt
  | .mk _ _ _ s t x y b e _ _ _ _, h => by
    rw [St.big] at h ⊢
    rw [big_cnt x (by omega), big_cnt y (by omega), sbigL_cnt b 0 (by omega), sbigL_cnt e 0 (by omega), St.cnt]
    omega
theorem sbigL_cnt : ∀ (l : List St) (n : Nat), St.bigL l n ≤ 3000 → St.bigL l n = n + St.cnts l
  | [], n, _ => by simp [St.bigL, St.cnts]
  | s :: r, n, h => by
    rw [St.bigL] at h ⊢
    split at h
    · rename_i hn
      have ih := sbigL_cnt r _ h
      rw [if_pos hn, ih, sbig_cnt s (by omega), St.cnts]
      omega
    · omega
end
theorem deBig_cnt : ∀ (l : List De) (n : Nat), deBig l n ≤ 3000 → deBig l n = n + desCnt l
  | [], n, _ => by simp [deBig, desCnt]
  | d :: r, n, h => by
    rw [deBig] at h ⊢
    split at h
    · rename_i hn
      have ih := deBig_cnt r _ h
      rw [if_pos hn, ih, sbigL_cnt d.body 0 (by omega), desCnt, deCnt]
      omega
    · omega
theorem bigL_max {B : Nat} : ∀ (l : List Ex) (n : Nat), (∀ j, j < l.length → (l.getD j zEx).big ≤ B) → Ex.bigL l n ≤ max n (3000 + B)
  | [], n, _ => by simp only [Ex.bigL]; omega
  | e :: r, n, h => by
    rw [Ex.bigL]
    split
    · have h0 := h 0 (by simp)
      have ih := bigL_max r (n + e.big) (fun j hj => by have := h (j + 1) (by simpa using hj); simpa using this)
      simp only [List.getD_cons_zero] at h0
      omega
    · omega
theorem sbigL_max {B : Nat} : ∀ (l : List St) (n : Nat), (∀ j, j < l.length → (l.getD j default).big ≤ B) → St.bigL l n ≤ max n (3000 + B)
  | [], n, _ => by simp only [St.bigL]; omega
  | e :: r, n, h => by
    rw [St.bigL]
    split
    · have h0 := h 0 (by simp)
      have ih := sbigL_max r (n + e.big) (fun j hj => by have := h (j + 1) (by simpa using hj); simpa using this)
      simp only [List.getD_cons_zero] at h0
      omega
    · omega
def Ex.sm : Nat → Ex → Prop
  | 0, _ => False
  | d + 1, .mk _ _ s _ _ _ args => s.size ≤ 16 ∧ ∀ j, j < args.length → Ex.sm d (args.getD j zEx)
theorem sm_big : ∀ (d : Nat) (e : Ex), e.sm d → e.big ≤ 17 + 3000 * d
  | 0, _, h => h.elim
  | d + 1, .mk _ _ s _ _ _ args, h => by
    unfold Ex.sm at h
    rw [Ex.big]
    have := bigL_max args (1 + s.size) (fun j hj => sm_big d _ (h.2 j hj))
    omega
def St.sm : Nat → St → Prop
  | 0, _ => False
  | k + 1, .mk _ _ _ s t x y b e _ _ _ _ => s.size ≤ 16 ∧ t.size ≤ 16 ∧ x.sm 24 ∧ y.sm 24 ∧ (∀ j, j < b.length → St.sm k (b.getD j default)) ∧ ∀ j, j < e.length → St.sm k (e.getD j default)
def sB : Nat → Nat
  | 0 => 0
  | k + 1 => 2 * sB k + 160000
theorem ssm_big : ∀ (k : Nat) (s : St), s.sm k → s.big ≤ sB k
  | 0, _, h => h.elim
  | k + 1, .mk _ _ _ s t x y b e _ _ _ _, h => by
    unfold St.sm at h
    obtain ⟨h1, h2, h3, h4, h5, h6⟩ := h
    rw [St.big, sB]
    have hx := sm_big 24 x h3
    have hy := sm_big 24 y h4
    have hb := sbigL_max b 0 (fun j hj => ssm_big k _ (h5 j hj))
    have he := sbigL_max e 0 (fun j hj => ssm_big k _ (h6 j hj))
    omega
theorem sB_24 : sB 24 ≤ 5000000000000 := by decide
theorem sB_mono : ∀ {j k : Nat}, j ≤ k → sB j ≤ sB k
  | j, 0, h => by obtain rfl : j = 0 := by omega
                  exact Nat.le_refl _
  | j, k + 1, h => by
    by_cases hj : j ≤ k
    · have := sB_mono hj
      rw [sB]
      omega
    · obtain rfl : j = k + 1 := by omega
      exact Nat.le_refl _
end Go.Proofs.YtjmlmelcppbefaaGreatDoor
namespace Go.Proofs.YtjmlmelcppbefaaGreatDoor
open Go.RowKit
theorem name_16o {c : Prop} [Decidable c] {s : ByteArray} (h : (if c then isName s else decide (s = noB)) = true) : s.size ≤ 16 := by
  split at h
  · exact name_16 h
  · simp only [decide_eq_true_eq] at h
    subst h
    decide
theorem exR_sm : ∀ (d : Nat) (e : Ex), exR isName e d = true → e.sm d
  | 0, .mk k n s sl lo o args, h => by
    rw [exR_eq] at h
    simp at h
  | d + 1, .mk k n s sl lo o args, h => by
    rw [exR_eq] at h
    simp only [Bool.and_eq_true] at h
    unfold Ex.sm
    refine ⟨name_16o h.2.2.2.1, fun j hj => ?_⟩
    have hl := h.2.2.2.2.2.2
    unfold exsR at hl
    refine exR_sm d _ (List.all_eq_true.1 hl _ ?_)
    rw [List.getD_eq_getElem?_getD, List.getElem?_eq_getElem hj]
    exact List.getElem_mem hj
theorem exZ_sm {e : Ex} (h : exZ e = true) : e.sm 24 := by
  obtain ⟨k, n, s, sl, lo, o, args⟩ := e
  simp only [exZ, Bool.and_eq_true, decide_eq_true_eq] at h
  obtain ⟨-, -, rfl, -, h5⟩ := h
  unfold Ex.sm
  exact ⟨by decide, fun j hj => by omega⟩
theorem exRZ_sm {c : Prop} [Decidable c] {e : Ex} (h : (if c then exR isName e 24 else exZ e) = true) : e.sm 24 := by
  split at h
  · exact exR_sm _ _ h
  · exact exZ_sm h
theorem stsR_all {d : Nat} : ∀ {l : List St}, stsR isName l d = true → ∀ j, j < l.length → stR isName (l.getD j default) d = true
  | [], _, j, hj => by cases hj
  | s :: r, h, j, hj => by
    unfold stsR at h
    rw [Bool.and_eq_true] at h
    cases j with
    | zero => exact h.1
    | succ j => simpa using stsR_all h.2 j (by simpa using hj)
theorem stR_sm : ∀ (k d : Nat) (s : St), d + k = 25 → stR isName s d = true → s.sm k
  | 0, d, .mk _ _ _ s t x y b e _ _ _ _, hd, h => by
    unfold stR at h
    simp only [Bool.and_eq_true, decide_eq_true_eq] at h
    omega
  | k + 1, d, .mk _ _ _ s t x y b e _ _ _ _, hd, h => by
    unfold stR at h
    simp only [Bool.and_eq_true, decide_eq_true_eq] at h
    unfold St.sm
    exact ⟨name_16o h.2.2.1, name_16o h.2.2.2.1, exRZ_sm h.2.2.2.2.2.1, exRZ_sm h.2.2.2.2.1, fun j hj => stR_sm k (d + 1) _ (by omega) (stsR_all h.2.2.2.2.2.2.2.2.1 j hj), fun j hj => stR_sm k (d + 1) _ (by omega) (stsR_all h.2.2.2.2.2.2.2.2.2 j hj)⟩
theorem deR_sm {d : De} (h : deR isName d = true) : d.name.size ≤ 16 ∧ ∀ j, j < d.body.length → (d.body.getD j default).sm 24 := by
  unfold deR at h
  simp only [Bool.and_eq_true, Bool.or_eq_true, decide_eq_true_eq] at h
  refine ⟨name_16 h.1, ?_⟩
  rcases h.2.1 with h6 | h0
  · have h3 := h.2.2
    rw [h6] at h3
    simp only [show ¬ (6 : Int) = 1 by decide, show ¬ ((6 : Int) = 2 ∨ (6 : Int) = 5) by decide, show ¬ ((6 : Int) = 3 ∨ (6 : Int) = 4) by decide, if_false, if_true, Bool.and_eq_true] at h3
    exact fun j hj => stR_sm 24 1 _ rfl (stsR_all h3.2 j hj)
  · exact fun j hj => by omega
end Go.Proofs.YtjmlmelcppbefaaGreatDoor
namespace Go.Proofs.YtjmlmelcppbefaaGreatDoor
open Go.RowKit
theorem sm_depth : ∀ {d : Nat} {e : Ex}, e.sm d → e.depth ≤ d
  | 0, _, h => h.elim
  | d + 1, .mk _ _ s _ _ _ args, h => by
    unfold Ex.sm at h
    rw [Ex.depth]
    have := (depths_le d args).2 fun j hj => sm_depth (h.2 j hj)
    omega
end Go.Proofs.YtjmlmelcppbefaaGreatDoor
namespace Go.Proofs.YtjmlmelcppbefaaGreatDoor
open Go.RowKit
def Fol (L : List UInt8) : Prop := isAny (L.headD 0) = false
theorem take_pre {f : UInt8 → Bool} {w L : List UInt8} (hw : ∀ c ∈ w, f c = true) (_h0 : f 0 = false) (hL : f (L.headD 0) = false) : (w ++ L).takeWhile f = w := by
  rw [List.takeWhile_append_of_pos hw]
  match L, hL with
  | [], _ => simp
  | c :: r, h => rw [List.takeWhile_cons_of_neg (by simpa using h), List.append_nil]
theorem head_app {w L : List UInt8} (hw : w ≠ []) : (w ++ L).headD 0 = w.headD 0 := by
  match w, hw with
  | _ :: _, _ => rfl
theorem let_nobl {c : UInt8} (h : isLet c = true) : isBl c = false ∧ ¬ c.toNat = 35 := by
  unfold isLet at h
  simp only [Bool.and_eq_true, decide_eq_true_eq] at h
  unfold isBl
  constructor
  · simp
    omega
  · omega
theorem dig_nobl {c : UInt8} (h : isDig c = true) : isBl c = false ∧ ¬ c.toNat = 35 := by
  unfold isDig at h
  simp only [Bool.and_eq_true, decide_eq_true_eq] at h
  unfold isBl
  constructor
  · simp
    omega
  · omega
theorem lx_word {w : ByteArray} {k : Bool} {L : List UInt8} {U : List Ky} (h1 : isLet (w.data.toList.headD 0) = true) (h2 : ∀ c ∈ w.data.toList, isAny c = true) (h16 : w.data.toList.length ≤ 16) (hk : isKw w.data.toList = k) (hf : Fol L) (h : Lx L U) :
    Lx (w.data.toList ++ L) (⟨if k then 3 else 1, w, 0⟩ :: U) := by
  have hne : w.data.toList ≠ [] := by
    intro e
    rw [e] at h1
    cases h1
  refine h.wd hne (let_nobl h1) ?_ rfl
  unfold wordL
  rw [head_app hne, h1, if_pos rfl, take_pre h2 (by decide) hf, hk]
  cases k
  · simp only [Bool.false_eq_true, if_false]
    rw [if_neg (by omega)]
  · simp
theorem lx_name {s : ByteArray} {L : List UInt8} {U : List Ky} (hs : isName s = true) (hf : Fol L) (h : Lx L U) : Lx (s.data.toList ++ L) (tkN s :: U) := by
  unfold isName at hs
  simp only [Bool.and_eq_true, decide_eq_true_eq, Bool.not_eq_true'] at hs
  obtain ⟨h0, h16, hl, ha, hk⟩ := hs
  have hh : s.data.toList.headD 0 = byte s 0 := by rw [← head_byte h0, List.drop_zero]
  have := lx_word (w := s) (k := false) (by rw [hh]; exact hl) (List.all_eq_true.1 ha) (by rw [size_l]; exact h16) hk hf h
  exact this
theorem lx_kw {w : ByteArray} {L : List UInt8} {U : List Ky} (hk : isKw w.data.toList = true ∧ isLet (w.data.toList.headD 0) = true ∧ w.data.toList.all isAny = true ∧ w.data.toList.length ≤ 16) (hf : Fol L) (h : Lx L U) : Lx (w.data.toList ++ L) (tkK w :: U) :=
  lx_word (k := true) hk.2.1 (List.all_eq_true.1 hk.2.2.1) hk.2.2.2 hk.1 hf h
theorem dd_step {u : Nat} (h : ¬ u < 10) : Lib.decDigits u = Lib.decDigits (u / 10) ++ [UInt8.ofNat (48 + u % 10)] := by rw [Lib.decDigits, dif_neg h]
theorem dig_of : ∀ j : Nat, j < 10 → isDig (UInt8.ofNat (48 + j)) = true := by decide
theorem val_of : ∀ j : Nat, j < 10 → (UInt8.ofNat (48 + j)).toNat - 48 = j := by decide
theorem nz_of : ∀ j : Nat, j < 10 → 1 ≤ j → UInt8.ofNat (48 + j) ≠ 48 := by decide
theorem dd_dig (u : Nat) : ∀ c ∈ Lib.decDigits u, isDig c = true := by
  induction u using Nat.strongRecOn with
  | _ u ih =>
    intro c hc
    by_cases h : u < 10
    · rw [Lib.decDigits_one h, List.mem_singleton] at hc
      rw [hc]
      exact dig_of u h
    · rw [dd_step h] at hc
      rcases List.mem_append.1 hc with hc | hc
      · exact ih (u / 10) (by omega) c hc
      · rw [List.mem_singleton] at hc
        rw [hc]
        exact dig_of _ (Nat.mod_lt _ (by decide))
theorem fv_app : ∀ (a b : List UInt8) (acc : Nat), fv acc (a ++ b) = fv (fv acc a) b
  | [], _, _ => rfl
  | _ :: r, b, _ => fv_app r b _
theorem fv_one (acc : Nat) (c : UInt8) : fv acc [c] = acc * 10 + (c.toNat - 48) := rfl
theorem fv_dd (u : Nat) : fv 0 (Lib.decDigits u) = u := by
  induction u using Nat.strongRecOn with
  | _ u ih =>
    by_cases h : u < 10
    · rw [Lib.decDigits_one h, fv_one, val_of u h]
      omega
    · rw [dd_step h, fv_app, ih (u / 10) (by omega), fv_one, val_of _ (Nat.mod_lt _ (by decide))]
      omega
theorem dd_ne (u : Nat) : Lib.decDigits u ≠ [] := by
  by_cases h : u < 10
  · rw [Lib.decDigits_one h]
    simp
  · rw [dd_step h]
    simp
theorem dd_head (u : Nat) : 1 < (Lib.decDigits u).length → (Lib.decDigits u).head? ≠ some 48 := by
  induction u using Nat.strongRecOn with
  | _ u ih =>
    intro h1
    by_cases h : u < 10
    · rw [Lib.decDigits_one h] at h1
      simp at h1
    · rw [dd_step h]
      have hh : ∀ (L M : List UInt8), L ≠ [] → (L ++ M).head? = L.head? := fun L M hL => by
        match L, hL with
        | _ :: _, _ => rfl
      rw [hh _ _ (dd_ne _)]
      by_cases h2 : u / 10 < 10
      · rw [Lib.decDigits_one h2]
        intro e
        exact nz_of _ h2 (by omega) (by simpa using e)
      · refine ih (u / 10) (by omega) ?_
        rw [dd_step h2]
        have := List.length_pos_iff.2 (dd_ne (u / 10 / 10))
        rw [List.length_append, List.length_singleton]
        omega
theorem dig_nolet {c : UInt8} (h : isDig c = true) : isLet c = false := by
  unfold isDig at h
  unfold isLet
  simp only [Bool.and_eq_true, decide_eq_true_eq] at h
  rw [decide_eq_false (show ¬ 97 ≤ c.toNat by omega), Bool.false_and]
theorem lx_num {n : Int} {L : List UInt8} {U : List Ky} (h0 : 0 ≤ n) (h1 : n ≤ 2147483647) (hf : Fol L) (h : Lx L U) : Lx (Lib.itoa n ++ L) (tkI n :: U) := by
  obtain ⟨u, rfl⟩ : ∃ u : Nat, n = u := ⟨n.toNat, by omega⟩
  have hi : Lib.itoa (u : Int) = Lib.decDigits u := by
    unfold Lib.itoa
    rw [if_neg (by omega)]
    rfl
  have hne := dd_ne u
  have hdig := dd_dig u
  have hh : isDig ((Lib.decDigits u).headD 0) = true := by
    match hq : Lib.decDigits u, hne with
    | c :: r, _ => exact hdig c (by rw [hq]; exact List.mem_cons_self ..)
  have hlet : isLet ((Lib.decDigits u).headD 0) = false := dig_nolet hh
  have hn : numP (Lib.decDigits u) = ((u : Int), true) := by
    unfold numP
    rw [fv_dd, if_neg]
    rintro (⟨e1, e2⟩ | e)
    · exact dd_head u e1 e2
    · omega
  have hdf : isDig (L.headD 0) = false := by
    unfold Fol isAny at hf
    simp only [Bool.or_eq_false_iff] at hf
    exact hf.2
  have hlf : isLet (L.headD 0) = false := by
    unfold Fol isAny at hf
    simp only [Bool.or_eq_false_iff] at hf
    exact hf.1
  rw [hi]
  refine h.wd hne (dig_nobl hh) ?_ (by unfold tkI bS; rw [hi])
  have htw : (Lib.decDigits u ++ L).takeWhile isDig = Lib.decDigits u := take_pre hdig (by decide) hdf
  have hbad : badL (Lib.decDigits u ++ L) = false := by
    unfold badL
    rw [htw, hn, List.drop_left]
    match L, hlf with
    | [], _ => rfl
    | c :: r, h => simpa using h
  unfold wordL
  rw [head_app hne, hlet, if_neg (by decide), hh, if_pos rfl, hbad, htw, hn]
  rfl
section
variable {L : List UInt8} {U : List Ky}
theorem lx_bro (h : Lx L U) : Lx (91 :: L) (tkS sBrO :: U) := h.wd (w := [91]) (by simp) (by decide) (by cases L <;> kernel_rfl) rfl
theorem lx_brs (h : Lx L U) : Lx (93 :: L) (tkS sBrS :: U) := h.wd (w := [93]) (by simp) (by decide) (by cases L <;> kernel_rfl) rfl
theorem lx_eq (h : Lx L U) : Lx (32 :: 61 :: 32 :: L) (tkS sEq :: U) := Lx.bl (by decide) ((h.bl (c := 32) (by decide)).wd (w := [61]) (by simp) (by decide) (by kernel_rfl) rfl)
theorem lx_sp (h : Lx L U) : Lx (32 :: L) U := h.bl (by decide)
theorem lx_nl (h : Lx L U) : Lx (10 :: L) U := h.bl (by decide)
theorem lx_tabs (h : Lx L U) : ∀ n, Lx (tabs n ++ L) U
  | 0 => h
  | n + 1 => by
    have := (lx_tabs h n).bl (c := 9) (by decide)
    unfold tabs at this ⊢
    rw [List.replicate_succ]
    exact this
end
mutual
def tkSt : St → List Ky
  | .mk k _ _ s t x y body els _ _ _ _ =>
    if k = 1 then tkK (stW.getD 1 noB) :: tkN s :: tkS sEq :: (tkE x ++ [tkS sSemi])
    else if k = 2 then tkN s :: tkS sEq :: (tkE x ++ [tkS sSemi])
    else if k = 3 then tkN s :: tkS sBrO :: (tkE y ++ (tkS sBrS :: tkS sEq :: (tkE x ++ [tkS sSemi])))
    else if k = 4 then tkK (stW.getD 4 noB) :: (tkE x ++ (tkS sBlO :: (tkSs body ++ (tkS sBlS :: (if els = [] then [] else tkK wElse :: tkS sBlO :: (tkSs els ++ [tkS sBlS]))))))
    else if k = 5 then tkK (stW.getD 5 noB) :: (tkE x ++ (tkS sBlO :: (tkSs body ++ [tkS sBlS])))
    else if k = 8 ∨ k = 12 then tkK (stW.getD k.toNat noB) :: tkN s :: tkN t :: [tkS sSemi]
    else if k = 11 then tkK (stW.getD 11 noB) :: tkN s :: (tkE x ++ [tkS sSemi])
    else if k = 14 then tkK (stW.getD 14 noB) :: [tkS sSemi]
    else if k = 15 then tkK (stW.getD 15 noB) :: (tkE x ++ [tkS sSemi])
    else tkK (stW.getD k.toNat noB) :: tkN s :: [tkS sSemi]
def tkSs : List St → List Ky
  | [] => []
  | s :: r => tkSt s ++ tkSs r
end
def tkNum (n : Int) : List Ky := if n < 0 then [tkS sMinus, tkI (-n)] else [tkI n]
def tkDe (d : De) : List Ky :=
  if d.kind = 1 then tkK (deW.getD 1 noB) :: tkN d.name :: tkS sEq :: (tkNum d.num ++ [tkS sSemi])
  else if d.kind = 2 ∨ d.kind = 5 then tkK (deW.getD d.kind.toNat noB) :: tkN d.name :: tkI d.num :: [tkS sSemi]
  else if d.kind = 3 ∨ d.kind = 4 then tkK (deW.getD d.kind.toNat noB) :: tkN d.name :: [tkS sSemi]
  else tkK (deW.getD 6 noB) :: tkN d.name :: tkS sBlO :: (tkSs d.body ++ [tkS sBlS])
theorem lx_paren {b n : Nat} {t : List UInt8} {K : List Ky} (ht : ∀ (L : List UInt8) (U : List Ky), Fol L → Lx L U → Lx (t ++ L) (K ++ U)) {L : List UInt8} {U : List Ky} (hf : Fol L) (h : Lx L U) : Lx (par b n t ++ L) (parK b n K ++ U) := by
  unfold par parK
  split
  · have h1 := lx_open (ht (41 :: L) (tkS sShut :: U) rfl (lx_shut h))
    simp only [List.cons_append, List.append_assoc, List.nil_append]
    exact h1
  · exact ht L U hf h
theorem lx_not {L : List UInt8} {U : List Ky} (hL : L.headD 0 ≠ 61) (h : Lx L U) : Lx (33 :: L) (tkS sNot :: U) := by
  refine h.wd (w := [33]) (by simp) (by decide) ?_ rfl
  match L, hL with
  | [], _ =>
    show wordL [33] = _
    kernel_rfl
  | c :: r, hc =>
    have hc' : c ≠ 61 := hc
    have hs : sgnL (33 :: c :: r) = 1 := by
      unfold sgnL
      have h2 : isSg ((33 :: c :: r : List UInt8).take 2) = false := by
        unfold isSg sgL
        simp
        exact fun e => hc' e.symm
      rw [h2, if_neg (by simp)]
      rfl
    show wordL (33 :: c :: r) = _
    unfold wordL
    rw [hs]
    rfl
theorem lx_op {q : Nat} (h1 : 1 ≤ q) (h2 : q ≤ 11) {L : List UInt8} {U : List Ky} (h : Lx L U) : Lx (32 :: ((opS.getD q noB).data.toList ++ (32 :: L))) (tkS (opS.getD q noB) :: U) := by
  refine Lx.bl (by decide) ((h.bl (c := 32) (by decide)).wd ?_ ?_ ?_ rfl)
  · have : ∀ j : Fin 12, 1 ≤ j.val → (opS.getD j.val noB).data.toList ≠ [] := by decide
    exact this ⟨q, by omega⟩ h1
  · have : ∀ j : Fin 12, 1 ≤ j.val → isBl ((opS.getD j.val noB).data.toList.headD 0) = false ∧ ¬ ((opS.getD j.val noB).data.toList.headD 0).toNat = 35 := by decide
    exact this ⟨q, by omega⟩ h1
  · have hc : q = 1 ∨ q = 2 ∨ q = 3 ∨ q = 4 ∨ q = 5 ∨ q = 6 ∨ q = 7 ∨ q = 8 ∨ q = 9 ∨ q = 10 ∨ q = 11 := by omega
    rcases hc with rfl | rfl | rfl | rfl | rfl | rfl | rfl | rfl | rfl | rfl | rfl <;> (show wordL _ = _; kernel_rfl)
theorem par_head {b n : Nat} {t L : List UInt8} (ht : ∀ L : List UInt8, (t ++ L).headD 0 ≠ 61) : (par b n t ++ L).headD 0 ≠ 61 := by
  unfold par
  split
  · show (40 : UInt8) ≠ 61
    decide
  · exact ht L
theorem name_head {s : ByteArray} (hs : isName s = true) (L : List UInt8) : (s.data.toList ++ L).headD 0 ≠ 61 := by
  unfold isName at hs
  simp only [Bool.and_eq_true, decide_eq_true_eq] at hs
  have hh : s.data.toList.headD 0 = byte s 0 := by rw [← head_byte hs.1, List.drop_zero]
  have hl := hs.2.2.1
  have hne : s.data.toList ≠ [] := by
    intro e
    have := size_l s
    rw [e] at this
    simp at this
    omega
  rw [head_app hne, hh]
  intro e
  rw [e] at hl
  exact absurd hl (by decide)
theorem ex_head : ∀ (e : Ex) (d : Nat), exR isName e d = true → ∀ L : List UInt8, (exT e ++ L).headD 0 ≠ 61
  | .mk k n s sl lo o [], d, h, L => by
    simp only [exR, Bool.and_eq_true, Bool.or_eq_true, decide_eq_true_eq] at h
    obtain ⟨-, -, -, hs, hk⟩ := h
    unfold exT
    rcases hk with ⟨rfl, hn⟩ | rfl
    · rw [if_pos rfl]
      obtain ⟨u, rfl⟩ : ∃ u : Nat, n = u := ⟨n.toNat, by omega⟩
      have hi : Lib.itoa (u : Int) = Lib.decDigits u := by
        unfold Lib.itoa
        rw [if_neg (by omega)]
        rfl
      rw [hi, head_app (dd_ne u)]
      intro e
      have hdig := dd_dig u
      match hq : Lib.decDigits u, dd_ne u with
      | c :: r, _ =>
        have hc := hdig c (by rw [hq]; exact List.mem_cons_self ..)
        rw [hq] at e
        have e' : c = 61 := e
        rw [e'] at hc
        exact absurd hc (by decide)
    · rw [if_neg (by decide)]
      exact name_head (by simpa using hs) L
  | .mk k n s sl lo o [x], d, h, L => by
    simp only [exR, Bool.and_eq_true, Bool.or_eq_true, decide_eq_true_eq] at h
    obtain ⟨-, -, -, hs, hk, -⟩ := h
    unfold exT
    rcases hk with rfl | rfl | rfl
    · rw [if_pos rfl, List.append_assoc]
      exact name_head (by simpa using hs) _
    · exact (by decide : (45 : UInt8) ≠ 61)
    · exact (by decide : (33 : UInt8) ≠ 61)
  | .mk k n s sl lo o [x, y], d, h, L => by
    simp only [exR, Bool.and_eq_true, Bool.or_eq_true, decide_eq_true_eq] at h
    obtain ⟨-, -, -, -, -, hx, -⟩ := h
    unfold exT
    rw [List.append_assoc]
    exact par_head (fun L => ex_head x (d - 1) hx L)
  | .mk k n s sl lo o (_ :: _ :: _ :: _), d, h, L => by simp [exR] at h
theorem lx_ex : ∀ (e : Ex) (d : Nat), exR isName e d = true → ∀ (L : List UInt8) (U : List Ky), Fol L → Lx L U → Lx (exT e ++ L) (tkE e ++ U)
  | .mk k n s sl lo o [], d, h, L, U, hf, hL => by
    simp only [exR, Bool.and_eq_true, Bool.or_eq_true, decide_eq_true_eq] at h
    obtain ⟨-, -, -, hs, hk⟩ := h
    unfold exT tkE
    rcases hk with ⟨rfl, hn1, hn2⟩ | rfl
    · rw [if_pos rfl, if_pos rfl]
      exact lx_num hn1 hn2 hf hL
    · rw [if_neg (by decide), if_neg (by decide)]
      exact lx_name (by simpa using hs) hf hL
  | .mk k n s sl lo o [x], d, h, L, U, hf, hL => by
    simp only [exR, Bool.and_eq_true, Bool.or_eq_true, decide_eq_true_eq] at h
    obtain ⟨-, -, -, hs, hk, hx⟩ := h
    unfold exT tkE
    rcases hk with rfl | rfl | rfl
    · rw [if_pos rfl, if_pos rfl]
      simp only [List.cons_append, List.append_assoc, List.nil_append]
      exact lx_name (by simpa using hs) (by rfl) (lx_bro (lx_ex x (d - 1) hx _ _ (by rfl) (lx_brs hL)))
    · show Lx ((45 :: par x.bind 6 (exT x)) ++ L) ((tkS sMinus :: parK x.bind 6 (tkE x)) ++ U)
      exact lx_minus (lx_paren (fun L U => lx_ex x (d - 1) hx L U) hf hL)
    · show Lx ((33 :: par x.bind 6 (exT x)) ++ L) ((tkS sNot :: parK x.bind 6 (tkE x)) ++ U)
      exact lx_not (par_head (fun L => ex_head x (d - 1) hx L)) (lx_paren (fun L U => lx_ex x (d - 1) hx L U) hf hL)
  | .mk k n s sl lo o [x, y], d, h, L, U, hf, hL => by
    simp only [exR, Bool.and_eq_true, Bool.or_eq_true, decide_eq_true_eq] at h
    obtain ⟨-, -, -, -, ⟨-, ho1, ho2⟩, hx, hy⟩ := h
    unfold exT tkE
    have h1 := lx_paren (b := y.bind) (n := rankOf o.toNat + 1) (fun L U => lx_ex y (d - 1) hy L U) hf hL
    have h2 := lx_op (q := o.toNat) (by omega) (by omega) h1
    have h3 := lx_paren (b := x.bind) (n := if rankOf o.toNat = 3 then 4 else rankOf o.toNat) (fun L U => lx_ex x (d - 1) hx L U) (by rfl) h2
    simp only [List.cons_append, List.append_assoc] at h3 ⊢
    exact h3
  | .mk k n s sl lo o (_ :: _ :: _ :: _), d, h, _, _, _, _ => by simp [exR] at h
theorem stw_kw : ∀ j : Fin 16, stW.getD j.val noB ≠ noB → isKw (stW.getD j.val noB).data.toList = true ∧ isLet ((stW.getD j.val noB).data.toList.headD 0) = true ∧ (stW.getD j.val noB).data.toList.all isAny = true ∧ (stW.getD j.val noB).data.toList.length ≤ 16 := by decide +kernel
theorem dew_kw : ∀ j : Fin 7, 1 ≤ j.val → isKw (deW.getD j.val noB).data.toList = true ∧ isLet ((deW.getD j.val noB).data.toList.headD 0) = true ∧ (deW.getD j.val noB).data.toList.all isAny = true ∧ (deW.getD j.val noB).data.toList.length ≤ 16 := by decide +kernel
theorem else_kw : isKw wElse.data.toList = true ∧ isLet (wElse.data.toList.headD 0) = true ∧ wElse.data.toList.all isAny = true ∧ wElse.data.toList.length ≤ 16 := by decide +kernel
theorem lx_blk {n : Nat} {B : List UInt8} {K : List Ky} (hB : ∀ (L : List UInt8) (U : List Ky), Lx L U → Lx (B ++ L) (K ++ U)) {L : List UInt8} {U : List Ky} (h : Lx L U) : Lx ([123, 10] ++ (B ++ (tabs n ++ [125])) ++ L) (tkS sBlO :: (K ++ (tkS sBlS :: U))) := by
  have h1 := lx_blo (lx_nl (hB _ _ (lx_tabs (lx_bls h) n)))
  simp only [List.cons_append, List.append_assoc, List.nil_append] at h1 ⊢
  exact h1
mutual
theorem lx_stm : ∀ (s : St) (d n : Nat), stR isName s d = true → ∀ (L : List UInt8) (U : List Ky), Lx L U → Lx (stT s n ++ L) (tkSt s ++ U)
  | .mk k l c s t x y body els id sl ot lo, d, n, h, L, U, hL => by
    unfold stR at h
    simp only [Bool.and_eq_true, Bool.or_eq_true, decide_eq_true_eq] at h
    obtain ⟨⟨h1, h15⟩, hd, hs, ht, hy, hx, hb, he, hbs, hes⟩ := h
    unfold stT tkSt
    by_cases k1 : k = 1
    · subst k1
      rw [if_pos rfl, if_pos rfl]
      have := lx_kw (stw_kw 1 (by decide)) (by rfl) (lx_sp (lx_name (by simpa [nName] using hs) (by rfl) (lx_eq (lx_ex x 24 (by simpa [nExpr] using hx) _ _ (by rfl) (lx_semi hL)))))
      simp only [List.cons_append, List.append_assoc, List.nil_append]
      exact this
    rw [if_neg k1, if_neg k1]
    by_cases k2 : k = 2
    · subst k2
      rw [if_pos rfl, if_pos rfl]
      have := lx_name (by simpa [nName] using hs) (by rfl) (lx_eq (lx_ex x 24 (by simpa [nExpr] using hx) _ _ (by rfl) (lx_semi hL)))
      simp only [List.cons_append, List.append_assoc, List.nil_append]
      exact this
    rw [if_neg k2, if_neg k2]
    by_cases k3 : k = 3
    · subst k3
      rw [if_pos rfl, if_pos rfl]
      have := lx_name (by simpa [nName] using hs) (by rfl) (lx_bro (lx_ex y 24 (by simpa using hy) _ _ (by rfl) (lx_brs (lx_eq (lx_ex x 24 (by simpa [nExpr] using hx) _ _ (by rfl) (lx_semi hL))))))
      simp only [List.cons_append, List.append_assoc, List.nil_append]
      exact this
    rw [if_neg k3, if_neg k3]
    by_cases k4 : k = 4
    · subst k4
      rw [if_pos rfl, if_pos rfl]
      have hx' : exR isName x 24 = true := by simpa [nExpr] using hx
      by_cases hne : els = []
      · rw [if_pos hne, if_pos hne]
        have := lx_kw (stw_kw 4 (by decide)) (by rfl) (lx_sp (lx_ex x 24 hx' _ _ (by rfl) (lx_sp (lx_blk (n := n) (fun L U h => lx_stl body (d + 1) (n + 1) hbs L U h) hL))))
        simp only [List.cons_append, List.append_assoc, List.nil_append] at this ⊢
        exact this
      · rw [if_neg hne, if_neg hne]
        have h2 := lx_kw else_kw (by rfl) (lx_sp (lx_blk (n := n) (fun L U h => lx_stl els (d + 1) (n + 1) hes L U h) hL))
        have := lx_kw (stw_kw 4 (by decide)) (by rfl) (lx_sp (lx_ex x 24 hx' _ _ (by rfl) (lx_sp (lx_blk (n := n) (fun L U h => lx_stl body (d + 1) (n + 1) hbs L U h) (lx_sp h2)))))
        simp only [List.cons_append, List.append_assoc, List.nil_append] at this ⊢
        exact this
    rw [if_neg k4, if_neg k4]
    by_cases k5 : k = 5
    · subst k5
      rw [if_pos rfl, if_pos rfl]
      have hx' : exR isName x 24 = true := by simpa [nExpr] using hx
      have := lx_kw (stw_kw 5 (by decide)) (by rfl) (lx_sp (lx_ex x 24 hx' _ _ (by rfl) (lx_sp (lx_blk (n := n) (fun L U h => lx_stl body (d + 1) (n + 1) hbs L U h) hL))))
      simp only [List.cons_append, List.append_assoc, List.nil_append] at this ⊢
      exact this
    rw [if_neg k5, if_neg k5]
    have hkw : k ≠ 14 → k ≠ 15 → isName s = true := fun a b => by
      have : nName k = true := by unfold nName; simp; omega
      simpa [this] using hs
    obtain ⟨q, rfl⟩ : ∃ q : Nat, k = q := ⟨k.toNat, by omega⟩
    have hq : q < 16 := by omega
    have hW : isKw (stW.getD q noB).data.toList = true ∧ isLet ((stW.getD q noB).data.toList.headD 0) = true ∧ (stW.getD q noB).data.toList.all isAny = true ∧ (stW.getD q noB).data.toList.length ≤ 16 := by
      refine stw_kw ⟨q, hq⟩ ?_
      have : ∀ j : Fin 16, 6 ≤ j.val → stW.getD j.val noB ≠ noB := by decide +kernel
      exact this ⟨q, hq⟩ (by show 6 ≤ q; omega)
    by_cases k8 : (q : Int) = 8 ∨ (q : Int) = 12
    · rw [if_pos k8, if_pos k8, Int.toNat_natCast]
      have hn : nWith (q : Int) = true := by unfold nWith; simpa using k8
      have := lx_kw hW (by rfl) (lx_sp (lx_name (hkw (by omega) (by omega)) (by rfl) (lx_sp (lx_name (by simpa [hn] using ht) (by rfl) (lx_semi hL)))))
      simp only [List.cons_append, List.append_assoc, List.nil_append] at this ⊢
      exact this
    rw [if_neg k8, if_neg k8]
    by_cases k11 : (q : Int) = 11
    · obtain rfl : q = 11 := by omega
      rw [if_pos k11, if_pos k11]
      have := lx_kw hW (by rfl) (lx_sp (lx_name (hkw (by decide) (by decide)) (by rfl) (lx_sp (lx_ex x 24 (by simpa [nExpr] using hx) _ _ (by rfl) (lx_semi hL)))))
      simp only [List.cons_append, List.append_assoc, List.nil_append] at this ⊢
      exact this
    rw [if_neg k11, if_neg k11]
    by_cases k14 : (q : Int) = 14
    · obtain rfl : q = 14 := by omega
      rw [if_pos k14, if_pos k14]
      exact lx_kw hW (by rfl) (lx_semi hL)
    rw [if_neg k14, if_neg k14]
    by_cases k15 : (q : Int) = 15
    · obtain rfl : q = 15 := by omega
      rw [if_pos k15, if_pos k15]
      have := lx_kw hW (by rfl) (lx_sp (lx_ex x 24 (by simpa [nExpr] using hx) _ _ (by rfl) (lx_semi hL)))
      simp only [List.cons_append, List.append_assoc, List.nil_append] at this ⊢
      exact this
    rw [if_neg k15, if_neg k15, Int.toNat_natCast]
    have := lx_kw hW (by rfl) (lx_sp (lx_name (hkw k14 k15) (by rfl) (lx_semi hL)))
    simp only [List.cons_append, List.append_assoc, List.nil_append] at this ⊢
    exact this
theorem lx_stl : ∀ (l : List St) (d n : Nat), stsR isName l d = true → ∀ (L : List UInt8) (U : List Ky), Lx L U → Lx (blT l n ++ L) (tkSs l ++ U)
  | [], _, _, _, _, _, h => by
    unfold blT tkSs
    exact h
  | s :: r, d, n, h, L, U, hL => by
    unfold stsR at h
    simp only [Bool.and_eq_true] at h
    unfold blT tkSs
    have := lx_tabs (lx_stm s d n h.1 _ _ (lx_nl (lx_stl r d n h.2 L U hL))) n
    simp only [List.cons_append, List.append_assoc, List.nil_append] at this ⊢
    exact this
end
theorem lx_int {n : Int} {L : List UInt8} {U : List Ky} (h0 : -2147483647 ≤ n) (h1 : n ≤ 2147483647) (hf : Fol L) (h : Lx L U) : Lx (Lib.itoa n ++ L) (tkNum n ++ U) := by
  unfold tkNum
  by_cases hn : n < 0
  · rw [if_pos hn]
    obtain ⟨u, rfl⟩ : ∃ u : Nat, n = -(u : Int) := ⟨n.natAbs, by omega⟩
    have e1 : Lib.itoa (-(u : Int)) = 45 :: Lib.itoa (u : Int) := by
      unfold Lib.itoa
      rw [if_pos hn, if_neg (by omega), show (-(u : Int)).natAbs = u by omega, Int.toNat_natCast]
    rw [e1, Int.neg_neg]
    exact lx_minus (lx_num (by omega) (by omega) hf h)
  · rw [if_neg hn]
    exact lx_num (by omega) h1 hf h
theorem lx_decl {d : De} (h : deR isName d = true) {L : List UInt8} {U : List Ky} (hL : Lx L U) : Lx (deT d ++ L) (tkDe d ++ U) := by
  obtain ⟨k, l, c, s, n, body⟩ := d
  unfold deR at h
  simp only [Bool.and_eq_true, Bool.or_eq_true, decide_eq_true_eq] at h
  obtain ⟨hs, hb, hk⟩ := h
  unfold deT tkDe
  dsimp only
  by_cases k1 : k = 1
  · subst k1
    rw [if_pos rfl] at hk ⊢
    rw [if_pos rfl]
    simp only [Bool.and_eq_true, decide_eq_true_eq] at hk
    have := lx_kw (dew_kw 1 (by decide)) (by rfl) (lx_sp (lx_name hs (by rfl) (lx_eq (lx_int hk.1 hk.2 (by rfl) (lx_semi (lx_nl hL))))))
    simp only [List.cons_append, List.append_assoc, List.nil_append] at this ⊢
    exact this
  rw [if_neg k1] at hk ⊢
  rw [if_neg k1]
  by_cases k2 : k = 2
  · subst k2
    rw [if_pos (.inl rfl)] at hk
    rw [if_pos rfl, if_pos (.inl rfl)]
    simp only [Bool.and_eq_true, decide_eq_true_eq] at hk
    have := lx_kw (dew_kw 2 (by decide)) (by rfl) (lx_sp (lx_name hs (by rfl) (lx_sp (lx_num hk.1 hk.2 (by rfl) (lx_semi (lx_nl hL))))))
    simp only [List.cons_append, List.append_assoc, List.nil_append] at this ⊢
    exact this
  rw [if_neg k2]
  by_cases k3 : k = 3
  · subst k3
    rw [if_pos rfl, if_neg (by decide), if_pos (.inl rfl)]
    have := lx_kw (dew_kw 3 (by decide)) (by rfl) (lx_sp (lx_name hs (by rfl) (lx_semi (lx_nl hL))))
    simp only [List.cons_append, List.append_assoc, List.nil_append] at this ⊢
    exact this
  rw [if_neg k3]
  by_cases k4 : k = 4
  · subst k4
    rw [if_pos rfl, if_neg (by decide), if_pos (.inr rfl)]
    have := lx_kw (dew_kw 4 (by decide)) (by rfl) (lx_sp (lx_name hs (by rfl) (lx_semi (lx_nl hL))))
    simp only [List.cons_append, List.append_assoc, List.nil_append] at this ⊢
    exact this
  rw [if_neg k4]
  by_cases k5 : k = 5
  · subst k5
    rw [if_pos (.inr rfl)] at hk
    rw [if_pos rfl, if_pos (.inr rfl)]
    simp only [Bool.and_eq_true, decide_eq_true_eq] at hk
    have := lx_kw (dew_kw 5 (by decide)) (by rfl) (lx_sp (lx_name hs (by rfl) (lx_sp (lx_num hk.1 hk.2 (by rfl) (lx_semi (lx_nl hL))))))
    simp only [List.cons_append, List.append_assoc, List.nil_append] at this ⊢
    exact this
  rw [if_neg (by omega), if_neg (by omega)] at hk
  rw [if_neg k5, if_neg (by omega), if_neg (by omega)]
  have hbd : stsR isName body 1 = true := by
    split at hk
    · simp only [Bool.and_eq_true, decide_eq_true_eq] at hk
      exact hk.2
    · cases hk
  have := lx_kw (dew_kw 6 (by decide)) (by rfl) (lx_sp (lx_name hs (by rfl) (lx_sp (lx_blk (n := 0) (fun L U h => lx_stl body 1 1 hbd L U h) (lx_nl hL)))))
  unfold blockT
  simp only [List.cons_append, List.append_assoc, List.nil_append] at this ⊢
  exact this
theorem lx_prog : ∀ {l : List De}, desR isName l = true → Lx (prT l) (l.flatMap tkDe)
  | [], _ => .nil fun c hc => by cases hc
  | d :: r, h => by
    have h2 : deR isName d = true ∧ desR isName r = true := by
      unfold desR at h ⊢
      simpa using h
    exact lx_decl h2.1 (lx_prog h2.2)
end Go.Proofs.YtjmlmelcppbefaaGreatDoor
namespace Go.Proofs.YtjmlmelcppbefaaGreatDoor
open Go.RowKit
mutual
def St.can : St → St
  | .mk k _ _ s t x y body els _ _ _ _ => .mk k 0 0 s t (exC x) (exC y) (St.cans body) (St.cans els) 0 0 0 false
def St.cans : List St → List St
  | [] => []
  | s :: r => s.can :: St.cans r
end
def De.can (d : De) : De := ⟨d.kind, 0, 0, d.name, d.num, St.cans d.body⟩
mutual
theorem exC_exC : ∀ e : Ex, exC (exC e) = exC e
  | .mk k n s _ _ o args => by simp [exC, exCs_exCs args]
theorem exCs_exCs : ∀ l : List Ex, exCs (exCs l) = exCs l
  | [] => by simp [exCs]
  | x :: r => by simp [exCs, exC_exC x, exCs_exCs r]
end
theorem exC_z {e : Ex} (h : exZ e = true) : exC e = exC zEx := by
  obtain ⟨k, n, s, sl, lo, o, args⟩ := e
  unfold exZ at h
  simp only [Bool.and_eq_true, decide_eq_true_eq] at h
  obtain ⟨rfl, rfl, rfl, rfl, ha⟩ := h
  obtain rfl := List.eq_nil_of_length_eq_zero ha
  simp [exC, exCs, zEx]
section
variable {T : List Wd}
theorem want_at {i : Nat} {s : ByteArray} {V : List Ky} (h : AtT T i (tkS s :: V)) : want T s i = some (.ok ((), i + 1)) ∧ AtT T (i + 1) V := by
  obtain ⟨h1, h2, h3⟩ := h.cons
  have e : isT T i s = true := by rw [isT_of h1 h2]; simp [tkS]
  exact ⟨by rw [want, e, if_pos rfl], h3⟩
theorem name_at {i : Nat} {s : ByteArray} {V : List Ky} (h : AtT T i (tkN s :: V)) : pName T i = some (.ok (s, i + 1)) ∧ AtT T (i + 1) V := by
  obtain ⟨h1, h2, h3⟩ := h.cons
  refine ⟨?_, h3⟩
  rw [pName, if_pos (by rw [kind_of h1 h2]; rfl), text_of h2]
  rfl
theorem num_at {i : Nat} {n : Int} {V : List Ky} (h : AtT T i (tkI n :: V)) : pNumb T i = some (.ok (n, i + 1)) ∧ AtT T (i + 1) V := by
  obtain ⟨h1, h2, h3⟩ := h.cons
  refine ⟨?_, h3⟩
  rw [pNumb, if_pos (by rw [kind_of h1 h2]; rfl), num_of h2]
  rfl
theorem ex_at {i : Nat} {x : Ex} {s : ByteArray} {V : List Ky} (hx : exR isName x 24 = true) (hs : opOf s = 0 ∧ decide (s = sBrO) = false) (h : AtT T i (tkE x ++ (tkS s :: V))) :
    pX T i = some (.ok (exC x, i + (tkE x).length)) ∧ AtT T (i + (tkE x).length) (tkS s :: V) := by
  obtain ⟨h1, h2, h3⟩ := h.right.cons
  have e4 : opAt T (i + (tkE x).length) = 0 := by rw [opAt_of h1 h2]; simp only [tkS, if_true]; exact hs.1
  have e6 : isT T (i + (tkE x).length) sBrO = false := by
    rw [isT_of h1 h2]
    show ((decide ((4 : Int) = 3) || decide ((4 : Int) = 4)) && decide (s = sBrO)) = false
    rw [hs.2]
    exact Bool.and_false _
  refine ⟨?_, h.right⟩
  show xE T 1 i = _
  rw [(parse_ex T isName x 24 hx).ex 1 i (Nat.le_refl _) (bind_pos isName x 24 hx) (by omega) h.left e6 (.inl e4), xL_stop (by omega) (.inl e4)]
theorem kw_at {i : Nat} {s : ByteArray} {V : List Ky} (h : AtT T i (tkK s :: V)) : i < T.length ∧ kindAt T i = 3 ∧ (T.getD i default).text = s ∧ AtT T (i + 1) V := by
  obtain ⟨h1, h2, h3⟩ := h.cons
  exact ⟨h1, by rw [kind_of h1 h2]; rfl, text_of h2, h3⟩
theorem kw_isT {i : Nat} {s t : ByteArray} {V : List Ky} (h : AtT T i (tkK s :: V)) : isT T i t = decide (s = t) := by
  obtain ⟨h1, h2, h3⟩ := h.cons
  rw [isT_of h1 h2]
  show ((decide ((3 : Int) = 3) || decide ((3 : Int) = 4)) && decide (s = t)) = _
  simp
theorem sg_isT {i : Nat} {s t : ByteArray} {V : List Ky} (h : AtT T i (tkS s :: V)) : isT T i t = decide (s = t) := by
  obtain ⟨h1, h2, h3⟩ := h.cons
  rw [isT_of h1 h2]
  show ((decide ((4 : Int) = 3) || decide ((4 : Int) = 4)) && decide (s = t)) = _
  simp
theorem semi_ok : opOf sSemi = 0 ∧ decide (sSemi = sBrO) = false := by decide +kernel
theorem brs_ok : opOf sBrS = 0 ∧ decide (sBrS = sBrO) = false := by decide +kernel
theorem blo_ok : opOf sBlO = 0 ∧ decide (sBlO = sBrO) = false := by decide +kernel
theorem stw_of : ∀ j : Fin 16, stW.getD j.val noB ≠ noB → stOf (stW.getD j.val noB) = j.val := by decide +kernel
theorem tkSt_head (s : St) (d : Nat) (h : stR isName s d = true) : ∃ u V, tkSt s = u :: V ∧ (u.kind = 1 ∨ (u.kind = 3 ∧ decide (u.text = sBlS) = false ∧ decide (u.text = wElse) = false)) := by
  obtain ⟨k, l, c, s, t, x, y, body, els, id, sl, ot, lo⟩ := s
  unfold stR at h
  simp only [Bool.and_eq_true, Bool.or_eq_true, decide_eq_true_eq] at h
  obtain ⟨⟨h1, h15⟩, -⟩ := h
  have hw : ∀ j : Fin 16, decide (stW.getD j.val noB = sBlS) = false ∧ decide (stW.getD j.val noB = wElse) = false := by decide +kernel
  have hk : ∀ (q : Nat) (V : List Ky), q < 16 → ∃ u V', tkK (stW.getD q noB) :: V = u :: V' ∧ (u.kind = 1 ∨ (u.kind = 3 ∧ decide (u.text = sBlS) = false ∧ decide (u.text = wElse) = false)) := fun q V hq => ⟨_, _, rfl, .inr ⟨rfl, hw ⟨q, hq⟩⟩⟩
  unfold tkSt
  repeat' split
  all_goals first
    | exact ⟨_, _, rfl, .inl rfl⟩
    | exact hk _ _ (by omega)
theorem blk_rest {i : Nat} {U V : List Ky} (h : AtT T i (tkS sBlO :: (U ++ (tkS sBlS :: V)))) : AtT T (i + (U.length + 2)) V := by
  have h2 := ((h.cons).2.2.right.cons).2.2
  rw [show i + (U.length + 2) = i + 1 + U.length + 1 by omega]
  exact h2
mutual
theorem parse_st : ∀ (s : St) (d i : Nat) (V : List Ky), stR isName s d = true → AtT T i (tkSt s ++ V) → isT T (i + (tkSt s).length) wElse = false → ∃ s', xS T i = some (.ok (s', i + (tkSt s).length)) ∧ s'.can = s.can
  | .mk k l c s t x y body els id sl ot lo, d, i, V, h, hA, hel => by
    unfold stR at h
    simp only [Bool.and_eq_true, Bool.or_eq_true, decide_eq_true_eq] at h
    obtain ⟨⟨h1, h15⟩, hd, hs, ht, hy, hx, hb, he, hbs, hes⟩ := h
    have hi : i ≤ T.length := by
      obtain ⟨u, W, hu, _⟩ := tkSt_head (.mk k l c s t x y body els id sl ot lo) d (by unfold stR; simp only [Bool.and_eq_true, Bool.or_eq_true, decide_eq_true_eq]; exact ⟨⟨h1, h15⟩, hd, hs, ht, hy, hx, hb, he, hbs, hes⟩)
      rw [hu] at hA
      exact Nat.le_of_lt (hA.cons).1
    have hbnil : k ≠ 4 → k ≠ 5 → body = [] := fun a b => List.eq_nil_of_length_eq_zero (by rcases hb with (h | h) | h <;> omega)
    have henil : k ≠ 4 → els = [] := fun a => List.eq_nil_of_length_eq_zero (by rcases he with h | h <;> omega)
    have hynil : k ≠ 3 → exC y = exC zEx := fun a => exC_z (by rw [if_neg a] at hy; exact hy)
    have htn : nWith k = false → t = noB := fun a => by simpa [a] using ht
    have hsn : nName k = false → s = noB := fun a => by simpa [a] using hs
    have hxn : nExpr k = false → exC x = exC zEx := fun a => exC_z (by simpa [a] using hx)
    obtain ⟨P, hP⟩ : ∃ P, plOf T i = P := ⟨_, rfl⟩
    rw [xS_eq T hi, hP]
    clear hP
    unfold tkSt at hA hel ⊢
    by_cases k1 : k = 1
    · subst k1
      rw [if_pos rfl] at hA hel ⊢
      simp only [List.cons_append, List.append_assoc, List.nil_append] at hA
      obtain ⟨g1, g2, g3, hA⟩ := kw_at hA
      obtain ⟨n1, hA⟩ := name_at hA
      obtain ⟨n2, hA⟩ := want_at hA
      obtain ⟨n3, hA⟩ := ex_at (by simpa [nExpr] using hx) semi_ok hA
      obtain ⟨n4, hA⟩ := want_at hA
      rw [if_neg (by rw [g2]; decide), g3, show stOf (stW.getD 1 noB) = 1 from stw_of 1 (by decide), if_neg (by rw [g2]; decide), if_neg (by decide), if_neg (by decide), pPlain, if_neg (by decide), if_neg (by decide), n1, andT_ok, if_pos rfl, n2, andT_ok, n3, andT_ok, n4, andT_ok]
      refine ⟨_, congrArg some (congrArg Except.ok (Prod.ext rfl ?_)), ?_⟩
      · simp
        omega
      · simp [mkSt, St.can, St.cans, exC_exC, hbnil, henil, hynil, htn, nWith]
    rw [if_neg k1] at hA hel ⊢
    by_cases k2 : k = 2
    · subst k2
      rw [if_pos rfl] at hA hel ⊢
      simp only [List.cons_append, List.append_assoc, List.nil_append] at hA
      obtain ⟨g1, g2, -⟩ := hA.cons
      have g2 : kindAt T i = 1 := by rw [kind_of g1 g2]; rfl
      obtain ⟨n1, hA⟩ := name_at hA
      have n0 : isT T (i + 1) sBrO = false := by rw [sg_isT hA]; decide +kernel
      obtain ⟨n2, hA⟩ := want_at hA
      obtain ⟨n3, hA⟩ := ex_at (by simpa [nExpr] using hx) semi_ok hA
      obtain ⟨n4, hA⟩ := want_at hA
      rw [if_pos g2, pAssign, n1, andT_ok, n0, if_neg (by decide), n2, andT_ok, n3, andT_ok, n4, andT_ok]
      refine ⟨_, congrArg some (congrArg Except.ok (Prod.ext rfl ?_)), ?_⟩
      · simp
        omega
      · simp [mkSt, St.can, St.cans, exC_exC, hbnil, henil, hynil, htn, nWith]
    rw [if_neg k2] at hA hel ⊢
    by_cases k3 : k = 3
    · subst k3
      rw [if_pos rfl] at hA hel ⊢
      simp only [List.cons_append, List.append_assoc, List.nil_append] at hA
      obtain ⟨g1, g2, -⟩ := hA.cons
      have g2 : kindAt T i = 1 := by rw [kind_of g1 g2]; rfl
      obtain ⟨n1, hA⟩ := name_at hA
      have n0 : isT T (i + 1) sBrO = true := by rw [sg_isT hA]; decide +kernel
      obtain ⟨-, hA⟩ := want_at hA
      obtain ⟨n2, hA⟩ := ex_at (by simpa using hy) brs_ok hA
      obtain ⟨n3, hA⟩ := want_at hA
      obtain ⟨n4, hA⟩ := want_at hA
      obtain ⟨n5, hA⟩ := ex_at (by simpa [nExpr] using hx) semi_ok hA
      obtain ⟨n6, hA⟩ := want_at hA
      rw [if_pos g2, pAssign, n1, andT_ok, n0, if_pos rfl, n2, andT_ok, n3, andT_ok, n4, andT_ok, n5, andT_ok, n6, andT_ok]
      refine ⟨_, congrArg some (congrArg Except.ok (Prod.ext rfl ?_)), ?_⟩
      · simp
        omega
      · simp [mkSt, St.can, St.cans, exC_exC, hbnil, henil, htn, nWith]
    rw [if_neg k3] at hA hel ⊢
    by_cases k4 : k = 4
    · subst k4
      rw [if_pos rfl] at hA hel ⊢
      have hx' : exR isName x 24 = true := by simpa [nExpr] using hx
      by_cases hne : els = []
      · rw [if_pos hne] at hA hel ⊢
        simp only [List.cons_append, List.append_assoc, List.nil_append] at hA
        obtain ⟨g1, g2, g3, hA⟩ := kw_at hA
        obtain ⟨n1, hA⟩ := ex_at hx' blo_ok hA
        obtain ⟨l', n2, n3⟩ := parse_blk body (d + 1) _ V hbs hA
        have n4 : isT T (i + 1 + (tkE x).length + ((tkSs body).length + 2)) wElse = false := by
          rw [← hel]
          congr 1
          simp
          omega
        rw [if_neg (by rw [g2]; decide), g3, show stOf (stW.getD 4 noB) = 4 from stw_of 4 (by decide), if_neg (by rw [g2]; decide), if_neg (by decide), if_pos rfl, n1, andT_ok, n2, andT_ok, n4, if_neg (by decide)]
        refine ⟨_, congrArg some (congrArg Except.ok (Prod.ext rfl ?_)), ?_⟩
        · simp
          omega
        · simp [mkSt, St.can, n3, exC_exC, hne, hynil, htn, hsn, nWith, nName, St.cans]
      · rw [if_neg hne] at hA hel ⊢
        simp only [List.cons_append, List.append_assoc, List.nil_append] at hA
        obtain ⟨g1, g2, g3, hA⟩ := kw_at hA
        obtain ⟨n1, hA⟩ := ex_at hx' blo_ok hA
        obtain ⟨l', n2, n3⟩ := parse_blk body (d + 1) _ _ hbs hA
        have hA2 := blk_rest hA
        have n4 : isT T (i + 1 + (tkE x).length + ((tkSs body).length + 2)) wElse = true := by
          rw [kw_isT hA2]
          exact decide_eq_true rfl
        obtain ⟨l2, n5, n6⟩ := parse_blk els (d + 1) _ V hes (kw_at hA2).2.2.2
        rw [if_neg (by rw [g2]; decide), g3, show stOf (stW.getD 4 noB) = 4 from stw_of 4 (by decide), if_neg (by rw [g2]; decide), if_neg (by decide), if_pos rfl, n1, andT_ok, n2, andT_ok, n4, if_pos rfl, n5, andT_ok]
        refine ⟨_, congrArg some (congrArg Except.ok (Prod.ext rfl ?_)), ?_⟩
        · simp
          omega
        · simp [mkSt, St.can, n3, n6, exC_exC, hynil, htn, hsn, nWith, nName]
    rw [if_neg k4] at hA hel ⊢
    by_cases k5 : k = 5
    · subst k5
      rw [if_pos rfl] at hA hel ⊢
      have hx' : exR isName x 24 = true := by simpa [nExpr] using hx
      simp only [List.cons_append, List.append_assoc, List.nil_append] at hA
      obtain ⟨g1, g2, g3, hA⟩ := kw_at hA
      obtain ⟨n1, hA⟩ := ex_at hx' blo_ok hA
      obtain ⟨l', n2, n3⟩ := parse_blk body (d + 1) _ V hbs hA
      rw [if_neg (by rw [g2]; decide), g3, show stOf (stW.getD 5 noB) = 5 from stw_of 5 (by decide), if_neg (by rw [g2]; decide), if_pos rfl, n1, andT_ok, n2, andT_ok]
      refine ⟨_, congrArg some (congrArg Except.ok (Prod.ext rfl ?_)), ?_⟩
      · simp
        omega
      · simp [mkSt, St.can, n3, exC_exC, henil, hynil, htn, hsn, nWith, nName, St.cans]
    rw [if_neg k5] at hA hel ⊢
    obtain ⟨q, rfl⟩ : ∃ q : Nat, k = q := ⟨k.toNat, by omega⟩
    have hq : q < 16 := by omega
    have hW : stOf (stW.getD q noB) = q := by
      refine stw_of ⟨q, hq⟩ ?_
      have : ∀ j : Fin 16, 6 ≤ j.val → stW.getD j.val noB ≠ noB := by decide +kernel
      exact this ⟨q, hq⟩ (by show 6 ≤ q; omega)
    have hbn := hbnil k4 k5
    have hen := henil k4
    have hyn := hynil k3
    have hplain : ∀ {R : PR St}, pPlain T P q (i + 1) = R → kindAt T i = 3 → (T.getD i default).text = stW.getD q noB →
        (if kindAt T i = 1 then pAssign T P i
        else if kindAt T i ≠ 3 ∨ stOf (T.getD i default).text = 0 then some (.error i)
        else if stOf (T.getD i default).text = 5 then andT (pX T (i + 1)) fun x j => andT (xB T j) fun b m => some (.ok (mkSt 5 P noB noB x zEx b [], m))
        else if stOf (T.getD i default).text = 4 then andT (pX T (i + 1)) fun x j => andT (xB T j) fun b m =>
          if isT T m wElse = true then andT (xB T (m + 1)) fun c n => some (.ok (mkSt 4 P noB noB x zEx b c, n)) else some (.ok (mkSt 4 P noB noB x zEx b [], m))
        else pPlain T P (stOf (T.getD i default).text) (i + 1)) = R := fun hR g2 g3 => by
      rw [if_neg (by rw [g2]; decide), g3, hW, if_neg (by rw [g2]; omega), if_neg (by omega), if_neg (by omega), hR]
    have hkn : (q : Int) ≠ 14 → (q : Int) ≠ 15 → (nName (q : Int) = true) := fun a b => by unfold nName; simp; omega
    by_cases k8 : (q : Int) = 8 ∨ (q : Int) = 12
    · rw [if_pos k8, Int.toNat_natCast] at hA hel ⊢
      simp only [List.cons_append, List.nil_append] at hA
      obtain ⟨g1, g2, g3, hA⟩ := kw_at hA
      obtain ⟨n1, hA⟩ := name_at hA
      obtain ⟨n2, hA⟩ := name_at hA
      obtain ⟨n3, hA⟩ := want_at hA
      have hxz := hxn (by unfold nExpr; simp; omega)
      refine ⟨mkSt q P s t zEx zEx [] [], ?_, ?_⟩
      · refine hplain ?_ g2 g3
        rw [pPlain, if_neg (by omega), if_neg (by omega), n1, andT_ok, if_neg (by omega), if_pos (by omega), n2, andT_ok, n3, andT_ok]
        simp
        try omega
      · simp [mkSt, St.can, hbn, hen, hyn, hxz, St.cans]
    rw [if_neg k8] at hA hel ⊢
    have htz := htn (by unfold nWith; simp; omega)
    by_cases k11 : (q : Int) = 11
    · obtain rfl : q = 11 := by omega
      rw [if_pos k11] at hA hel ⊢
      simp only [List.cons_append, List.append_assoc, List.nil_append] at hA
      obtain ⟨g1, g2, g3, hA⟩ := kw_at hA
      obtain ⟨n1, hA⟩ := name_at hA
      obtain ⟨n2, hA⟩ := ex_at (by simpa [nExpr] using hx) semi_ok hA
      obtain ⟨n3, hA⟩ := want_at hA
      refine ⟨mkSt 11 P s noB (exC x) zEx [] [], ?_, ?_⟩
      · refine hplain ?_ g2 g3
        rw [pPlain, if_neg (by omega), if_neg (by omega), n1, andT_ok, if_neg (by omega), if_neg (by omega), if_pos rfl, n2, andT_ok, n3, andT_ok]
        simp
        omega
      · simp [mkSt, St.can, hbn, hen, hyn, htz, exC_exC, St.cans]
    rw [if_neg k11] at hA hel ⊢
    by_cases k14 : (q : Int) = 14
    · obtain rfl : q = 14 := by omega
      rw [if_pos k14] at hA hel ⊢
      simp only [List.cons_append, List.nil_append] at hA
      obtain ⟨g1, g2, g3, hA⟩ := kw_at hA
      obtain ⟨n3, hA⟩ := want_at hA
      have hxz := hxn (by decide)
      have hsz := hsn (by decide)
      refine ⟨mkSt 14 P noB noB zEx zEx [] [], ?_, ?_⟩
      · refine hplain ?_ g2 g3
        rw [pPlain, if_pos rfl, n3, andT_ok]
        simp
      · simp [mkSt, St.can, hbn, hen, hyn, htz, hxz, hsz, St.cans]
    rw [if_neg k14] at hA hel ⊢
    by_cases k15 : (q : Int) = 15
    · obtain rfl : q = 15 := by omega
      rw [if_pos k15] at hA hel ⊢
      simp only [List.cons_append, List.append_assoc, List.nil_append] at hA
      obtain ⟨g1, g2, g3, hA⟩ := kw_at hA
      obtain ⟨n2, hA⟩ := ex_at (by simpa [nExpr] using hx) semi_ok hA
      obtain ⟨n3, hA⟩ := want_at hA
      have hsz := hsn (by decide)
      refine ⟨mkSt 15 P noB noB (exC x) zEx [] [], ?_, ?_⟩
      · refine hplain ?_ g2 g3
        rw [pPlain, if_neg (by omega), if_pos rfl, n2, andT_ok, n3, andT_ok]
        simp
        omega
      · simp [mkSt, St.can, hbn, hen, hyn, htz, hsz, exC_exC, St.cans]
    rw [if_neg k15, Int.toNat_natCast] at hA hel ⊢
    simp only [List.cons_append, List.nil_append] at hA
    obtain ⟨g1, g2, g3, hA⟩ := kw_at hA
    obtain ⟨n1, hA⟩ := name_at hA
    obtain ⟨n3, hA⟩ := want_at hA
    have hxz := hxn (by unfold nExpr; simp; omega)
    refine ⟨mkSt q P s noB zEx zEx [] [], ?_, ?_⟩
    · refine hplain ?_ g2 g3
      rw [pPlain, if_neg (by omega), if_neg (by omega), n1, andT_ok, if_neg (by omega), if_neg (by omega), if_neg (by omega), n3, andT_ok]
      simp
      try omega
    · simp [mkSt, St.can, hbn, hen, hyn, htz, hxz, St.cans]
theorem parse_sts : ∀ (l : List St) (d i : Nat) (acc : List St) (V : List Ky), stsR isName l d = true → AtT T i (tkSs l ++ (tkS sBlS :: V)) → ∃ l', xSs T acc i = some (.ok (acc ++ l', i + ((tkSs l).length + 1))) ∧ St.cans l' = St.cans l
  | [], d, i, acc, V, _, hA => by
    unfold tkSs at hA
    rw [List.nil_append] at hA
    obtain ⟨h1, h2, _⟩ := hA.cons
    refine ⟨[], ?_, rfl⟩
    rw [xSs_eq T (by omega), if_pos (by rw [sg_isT hA]; exact decide_eq_true rfl)]
    simp [tkSs]
  | s :: r, d, i, acc, V, h, hA => by
    unfold stsR at h
    simp only [Bool.and_eq_true] at h
    have hh := tkSt_head s d h.1
    unfold tkSs at hA ⊢
    rw [List.append_assoc] at hA
    have hA1 := hA
    obtain ⟨u, W, hu, hk⟩ := hh
    rw [hu, List.cons_append] at hA1
    obtain ⟨g1, g2, -⟩ := hA1.cons
    have e1 : isT T i sBlS = false := by
      rw [isT_of g1 g2]
      rcases hk with hk | ⟨hk, hk2, -⟩
      · rw [hk]; simp
      · rw [hk2]; simp
    have hA2 := hA.right
    have e2 : isT T (i + (tkSt s).length) wElse = false := by
      match r, h.2, hA2 with
      | [], _, hA2 =>
        unfold tkSs at hA2
        rw [List.nil_append] at hA2
        rw [sg_isT hA2]
        decide +kernel
      | s2 :: r2, h2, hA2 =>
        unfold stsR at h2
        simp only [Bool.and_eq_true] at h2
        obtain ⟨u2, W2, hu2, hk2⟩ := tkSt_head s2 d h2.1
        unfold tkSs at hA2
        rw [List.append_assoc, hu2, List.cons_append] at hA2
        obtain ⟨f1, f2, -⟩ := hA2.cons
        rw [isT_of f1 f2]
        rcases hk2 with hk | ⟨hk, -, hk3⟩
        · rw [hk]; simp
        · rw [hk3]; simp
    obtain ⟨s', n1, n2⟩ := parse_st s d i _ h.1 hA e2
    obtain ⟨l', n3, n4⟩ := parse_sts r d (i + (tkSt s).length) (acc ++ [s']) V h.2 hA2
    refine ⟨s' :: l', ?_, ?_⟩
    · rw [xSs_eq T (by omega), e1, if_neg (by decide), n1, andT_ok, n3]
      refine congrArg some (congrArg Except.ok (Prod.ext ?_ ?_))
      · simp
      · simp
        omega
    · simp [St.cans, n2, n4]
theorem parse_blk : ∀ (l : List St) (d i : Nat) (V : List Ky), stsR isName l d = true → AtT T i (tkS sBlO :: (tkSs l ++ (tkS sBlS :: V))) → ∃ l', xB T i = some (.ok (l', i + ((tkSs l).length + 2))) ∧ St.cans l' = St.cans l
  | l, d, i, V, h, hA => by
    obtain ⟨n1, hA2⟩ := want_at hA
    obtain ⟨l', n2, n3⟩ := parse_sts l d (i + 1) [] V h hA2
    refine ⟨l', ?_, n3⟩
    rw [xB_eq T (by have := (hA.cons).1; omega), n1, andT_ok, n2, List.nil_append]
    refine congrArg some (congrArg Except.ok (Prod.ext rfl ?_))
    show i + 1 + ((tkSs l).length + 1) = i + ((tkSs l).length + 2)
    omega
end
end
end Go.Proofs.YtjmlmelcppbefaaGreatDoor
namespace Go.Proofs.YtjmlmelcppbefaaGreatDoor
open Go.RowKit
theorem exC_bind (e : Ex) : (exC e).bind = e.bind := by
  obtain ⟨k, n, s, sl, lo, o, args⟩ := e
  simp [exC, Ex.bind]
theorem exR_can (nm : ByteArray → Bool) : ∀ (e : Ex) (d : Nat), exR nm (exC e) d = exR nm e d
  | .mk k n s sl lo o [], d => by simp [exC, exCs, exR]
  | .mk k n s sl lo o [x], d => by simp [exC, exCs, exR, exR_can nm x]
  | .mk k n s sl lo o [x, y], d => by simp [exC, exCs, exR, exR_can nm x, exR_can nm y]
  | .mk k n s sl lo o (_ :: _ :: _ :: _), d => by simp [exC, exCs, exR]
theorem exCs_len : ∀ l : List Ex, (exCs l).length = l.length
  | [] => by simp [exCs]
  | _ :: r => by simp [exCs, exCs_len r]
theorem exZ_can (e : Ex) : exZ (exC e) = exZ e := by
  obtain ⟨k, n, s, sl, lo, o, args⟩ := e
  simp [exC, exZ, exCs_len]
theorem exT_can : ∀ e : Ex, exT (exC e) = exT e
  | .mk k n s sl lo o [] => by simp [exC, exCs, exT]
  | .mk k n s sl lo o [x] => by simp [exC, exCs, exT, exT_can x, exC_bind]
  | .mk k n s sl lo o [x, y] => by simp [exC, exCs, exT, exT_can x, exT_can y, exC_bind]
  | .mk k n s sl lo o (_ :: _ :: _ :: _) => by simp [exC, exCs, exT]
theorem cans_len : ∀ l : List St, (St.cans l).length = l.length
  | [] => by simp [St.cans]
  | _ :: r => by simp [St.cans, cans_len r]
theorem cans_nil {l : List St} : St.cans l = [] ↔ l = [] := by
  cases l <;> simp [St.cans]
mutual
theorem stR_can (nm : ByteArray → Bool) : ∀ (s : St) (d : Nat), stR nm s.can d = stR nm s d
  | .mk k l c s t x y body els id sl ot lo, d => by
    unfold St.can stR
    simp only [exR_can, exZ_can, cans_len, stsR_can nm body, stsR_can nm els]
theorem stsR_can (nm : ByteArray → Bool) : ∀ (l : List St) (d : Nat), stsR nm (St.cans l) d = stsR nm l d
  | [], d => by unfold St.cans; rfl
  | s :: r, d => by
    unfold St.cans stsR
    rw [stR_can nm s, stsR_can nm r]
end
mutual
theorem stT_can : ∀ (s : St) (n : Nat), stT s.can n = stT s n
  | .mk k l c s t x y body els id sl ot lo, n => by
    unfold St.can stT
    simp only [exT_can, cans_nil, blT_cans body, blT_cans els]
theorem blT_cans : ∀ (l : List St) (n : Nat), blT (St.cans l) n = blT l n
  | [], n => by unfold St.cans; rfl
  | s :: r, n => by
    unfold St.cans blT
    rw [stT_can s, blT_cans r]
end
theorem deR_can (nm : ByteArray → Bool) (d : De) : deR nm d.can = deR nm d := by
  unfold deR De.can
  simp only [cans_len, stsR_can]
theorem deT_can (d : De) : deT d.can = deT d := by
  unfold deT De.can blockT
  simp only [blT_cans]
theorem prT_can : ∀ l : List De, prT (l.map De.can) = prT l
  | [] => rfl
  | d :: r => by
    show deT d.can ++ prT (r.map De.can) = deT d ++ prT r
    rw [deT_can, prT_can r]
theorem desR_can (nm : ByteArray → Bool) : ∀ l : List De, desR nm (l.map De.can) = desR nm l
  | [] => rfl
  | d :: r => by
    show (deR nm d.can && desR nm (r.map De.can)) = (deR nm d && desR nm r)
    rw [deR_can, desR_can nm r]
theorem ex_deep {x : Ex} {c : Prop} [Decidable c] (h : (if c then exR isName x 24 else exZ x) = true) : x.depth ≤ 24 := sm_depth (exRZ_sm h)
mutual
theorem stR_flat : ∀ (s : St) (d : Nat), stR isName s d = true → s.deep d = none
  | .mk k l c s t x y body els id sl ot lo, d, h => by
    unfold stR at h
    simp only [Bool.and_eq_true, Bool.or_eq_true, decide_eq_true_eq] at h
    obtain ⟨-, hd, -, -, hy, hx, -, -, hb, he⟩ := h
    have h1 := ex_deep hx
    have h2 := ex_deep hy
    unfold St.deep
    rw [if_neg (by omega), stsR_flat body (d + 1) hb]
    exact stsR_flat els (d + 1) he
theorem stsR_flat : ∀ (l : List St) (d : Nat), stsR isName l d = true → St.deeps l d = none
  | [], d, _ => by unfold St.deeps; rfl
  | s :: r, d, h => by
    unfold stsR at h
    simp only [Bool.and_eq_true] at h
    unfold St.deeps
    rw [stR_flat s d h.1]
    exact stsR_flat r d h.2
end
theorem deR_flat {d : De} (h : deR isName d = true) : St.deeps d.body 1 = none := by
  obtain ⟨k, l, c, s, n, body⟩ := d
  unfold deR at h
  simp only [Bool.and_eq_true, Bool.or_eq_true, decide_eq_true_eq] at h
  obtain ⟨-, hb, hk⟩ := h
  by_cases k6 : k = 6
  · subst k6
    rw [if_neg (by decide), if_neg (by decide), if_neg (by decide), if_pos rfl] at hk
    simp only [Bool.and_eq_true, decide_eq_true_eq] at hk
    exact stsR_flat _ 1 hk.2
  · have : body = [] := List.eq_nil_of_length_eq_zero (by rcases hb with h | h <;> omega)
    subst this
    show St.deeps [] 1 = none
    unfold St.deeps
    rfl
theorem desR_flat : ∀ {l : List De}, desR isName l = true → deDeep l = none
  | [], _ => rfl
  | d :: r, h => by
    have h2 : deR isName d = true ∧ desR isName r = true := by
      unfold desR at h ⊢
      simpa using h
    rw [deDeep, deR_flat h2.1]
    exact desR_flat h2.2
section
variable {T : List Wd}
theorem dew_at : ∀ j : Fin 7, 1 ≤ j.val → ((List.range 7).find? fun k => decide (k ≠ 0) && decide (deW.getD j.val noB = deW.getD k noB)).getD 0 = j.val := by decide +kernel
theorem de_kw {i k : Nat} {V : List Ky} (h1 : 1 ≤ k) (h6 : k ≤ 6) (hA : AtT T i (tkK (deW.getD k noB) :: V)) : deAt T i = k := by
  unfold deAt
  have e : (fun k' => decide (k' ≠ 0) && isT T i (deW.getD k' noB)) = fun k' => decide (k' ≠ 0) && decide (deW.getD k noB = deW.getD k' noB) := funext fun k' => by rw [kw_isT hA]
  rw [e]
  exact dew_at ⟨k, by omega⟩ h1
theorem mkDe_can (k : Int) (p : Int × Int) (s : ByteArray) (n : Int) (b : List St) : (mkDe k p s n b).can = ⟨k, 0, 0, s, n, St.cans b⟩ := rfl
theorem parse_de {d : De} {i : Nat} {V : List Ky} (h : deR isName d = true) (hA : AtT T i (tkDe d ++ V)) : ∃ d', pD T i = some (.ok (d', i + (tkDe d).length)) ∧ d'.can = d.can := by
  obtain ⟨k, l, c, s, n, body⟩ := d
  unfold deR at h
  simp only [Bool.and_eq_true, Bool.or_eq_true, decide_eq_true_eq] at h
  obtain ⟨hs, hb, hk⟩ := h
  have hbn : k ≠ 6 → body = [] := fun h6 => List.eq_nil_of_length_eq_zero (by rcases hb with h | h <;> omega)
  obtain ⟨P, hP⟩ : ∃ P, plOf T i = P := ⟨_, rfl⟩
  unfold tkDe at hA ⊢
  dsimp only at hA ⊢
  unfold pD
  rw [hP]
  by_cases k1 : k = 1
  · subst k1
    rw [if_pos rfl] at hA ⊢
    simp only [List.cons_append, List.append_assoc, List.nil_append] at hA
    have hd := de_kw (k := 1) (by decide) (by decide) hA
    obtain ⟨-, -, -, hA⟩ := kw_at hA
    obtain ⟨n1, hA⟩ := name_at hA
    obtain ⟨n2, hA⟩ := want_at hA
    have hbz := hbn (by decide)
    unfold tkNum at hA ⊢
    rw [hd, if_neg (by decide), n1, andT_ok, if_pos rfl, n2, andT_ok]
    by_cases hn : n < 0
    · rw [if_pos hn] at hA ⊢
      simp only [List.cons_append, List.nil_append] at hA
      have n3 : isT T (i + 1 + 1 + 1) sMinus = true := by rw [sg_isT hA]; exact decide_eq_true rfl
      obtain ⟨-, hA⟩ := want_at hA
      obtain ⟨n4, hA⟩ := num_at hA
      obtain ⟨n5, hA⟩ := want_at hA
      rw [n3, if_pos rfl, n4, andT_ok, n5, andT_ok]
      refine ⟨_, congrArg some (congrArg Except.ok (Prod.ext rfl ?_)), ?_⟩
      · simp
      · rw [mkDe_can, hbz, Int.neg_neg]
        rfl
    · rw [if_neg hn] at hA ⊢
      simp only [List.cons_append, List.nil_append] at hA
      have n3 : isT T (i + 1 + 1 + 1) sMinus = false := by
        obtain ⟨g1, g2, -⟩ := hA.cons
        rw [isT_of g1 g2]
        rfl
      obtain ⟨n4, hA⟩ := num_at hA
      obtain ⟨n5, hA⟩ := want_at hA
      rw [n3, if_neg (by decide), n4, andT_ok, n5, andT_ok]
      refine ⟨_, congrArg some (congrArg Except.ok (Prod.ext rfl ?_)), ?_⟩
      · simp
      · rw [mkDe_can, hbz]
        rfl
  rw [if_neg k1] at hA hk ⊢
  by_cases k25 : k = 2 ∨ k = 5
  · rw [if_pos k25] at hA ⊢
    have hbz := hbn (by omega)
    obtain ⟨q, rfl⟩ : ∃ q : Nat, k = q := ⟨k.toNat, by omega⟩
    rw [Int.toNat_natCast] at hA ⊢
    simp only [List.cons_append, List.nil_append] at hA
    have hd := de_kw (k := q) (by omega) (by omega) hA
    obtain ⟨-, -, -, hA⟩ := kw_at hA
    obtain ⟨n1, hA⟩ := name_at hA
    obtain ⟨n4, hA⟩ := num_at hA
    obtain ⟨n5, hA⟩ := want_at hA
    rw [hd, if_neg (by omega), n1, andT_ok, if_neg (by omega), if_pos (by omega), n4, andT_ok, n5, andT_ok]
    refine ⟨_, congrArg some (congrArg Except.ok (Prod.ext rfl ?_)), ?_⟩
    · simp
    · rw [mkDe_can, hbz]
      rfl
  rw [if_neg k25] at hA hk ⊢
  by_cases k34 : k = 3 ∨ k = 4
  · rw [if_pos k34] at hA hk ⊢
    have hn : n = 0 := by simpa using hk
    have hbz := hbn (by omega)
    obtain ⟨q, rfl⟩ : ∃ q : Nat, k = q := ⟨k.toNat, by omega⟩
    rw [Int.toNat_natCast] at hA ⊢
    simp only [List.cons_append, List.nil_append] at hA
    have hd := de_kw (k := q) (by omega) (by omega) hA
    obtain ⟨-, -, -, hA⟩ := kw_at hA
    obtain ⟨n1, hA⟩ := name_at hA
    obtain ⟨n5, hA⟩ := want_at hA
    rw [hd, if_neg (by omega), n1, andT_ok, if_neg (by omega), if_neg (by omega), if_neg (by omega), n5, andT_ok]
    refine ⟨_, congrArg some (congrArg Except.ok (Prod.ext rfl ?_)), ?_⟩
    · simp
    · rw [mkDe_can, hbz, hn]
      rfl
  rw [if_neg k34] at hA hk ⊢
  split at hk
  · rename_i k6
    subst k6
    simp only [Bool.and_eq_true, decide_eq_true_eq] at hk
    obtain ⟨hn, hbd⟩ := hk
    simp only [List.cons_append, List.append_assoc, List.nil_append] at hA
    have hd := de_kw (k := 6) (by decide) (by decide) hA
    obtain ⟨-, -, -, hA⟩ := kw_at hA
    obtain ⟨n1, hA⟩ := name_at hA
    obtain ⟨l', n2, n3⟩ := parse_blk body 1 _ V hbd hA
    rw [hd, if_neg (by decide), n1, andT_ok, if_neg (by decide), if_neg (by decide), if_pos rfl, show pBlk T (i + 1 + 1) = xB T (i + 1 + 1) from rfl, n2, andT_ok]
    refine ⟨_, congrArg some (congrArg Except.ok (Prod.ext rfl ?_)), ?_⟩
    · simp
      omega
    · rw [mkDe_can, n3, hn]
      rfl
  · cases hk
theorem parse_des : ∀ (l : List De) (i f : Nat) (acc : List De), desR isName l = true → AtT T i (l.flatMap tkDe) → i + (l.flatMap tkDe).length = T.length → l.length < f →
    ∃ l', pDs T f acc i = some (.ok (acc ++ l', T.length)) ∧ l'.map De.can = l.map De.can
  | [], i, f, acc, _, _, hi, hf => by
    obtain ⟨g, rfl⟩ : ∃ g, f = g + 1 := ⟨f - 1, by omega⟩
    have : i = T.length := by simpa using hi
    refine ⟨[], ?_, rfl⟩
    rw [pDs, if_neg (by omega), this, List.append_nil]
  | d :: r, i, f, acc, h, hA, hi, hf => by
    obtain ⟨g, rfl⟩ : ∃ g, f = g + 1 := ⟨f - 1, by omega⟩
    have h2 : deR isName d = true ∧ desR isName r = true := by
      unfold desR at h ⊢
      simpa using h
    rw [List.flatMap_cons] at hA hi
    rw [List.length_append] at hi
    have hlt : i < T.length := by
      have := (hA 0 (by
        have : tkDe d ≠ [] := by
          unfold tkDe
          repeat' split
          all_goals simp
        have := List.length_pos_iff.2 this
        rw [List.length_append]
        omega)).1
      omega
    obtain ⟨d', n1, n2⟩ := parse_de h2.1 hA
    obtain ⟨l', n3, n4⟩ := parse_des r (i + (tkDe d).length) g (acc ++ [d']) h2.2 hA.right (by omega) (by simpa using hf)
    refine ⟨d' :: l', ?_, ?_⟩
    · rw [pDs, if_pos hlt, n1, andT_ok, n3]
      simp
    · simp [n2, n4]
end
theorem tk_ge : ∀ l : List De, l.length ≤ (l.flatMap tkDe).length
  | [] => Nat.le_refl _
  | d :: r => by
    have : tkDe d ≠ [] := by
      unfold tkDe
      repeat' split
      all_goals simp
    have := List.length_pos_iff.2 this
    have := tk_ge r
    rw [List.flatMap_cons, List.length_append, List.length_cons]
    omega
theorem text_back {l : List De} (hR : desR isName l = true) (hlen : (prT l).length ≤ 65536) : ∃ l', parseR (bS (prT l)) = (l', (0, 0), 0) ∧ l'.map De.can = l.map De.can ∧ desR isName l' = true ∧ prT l' = prT l := by
  have hLx : Lx (bS (prT l)).data.toList (l.flatMap tkDe) := lx_prog hR
  obtain ⟨m, h1, h2⟩ := hLx.lexR (by show (prT l).toArray.size ≤ 65536; simpa using hlen)
  have hA := at_map h2
  have hl : (l.flatMap tkDe).length = m.length := by rw [← h2, List.length_map]
  obtain ⟨l', h3, h4⟩ := parse_des (T := m) l 0 (m.length + 1) [] hR hA (by omega) (by have := tk_ge l; omega)
  have h5 : desR isName l' = true := by rw [← desR_can, h4, desR_can]; exact hR
  refine ⟨l', ?_, h4, h5, by rw [← prT_can, h4, prT_can]⟩
  unfold parseR
  rw [h1]
  dsimp only
  rw [if_pos rfl, h3, List.nil_append]
  dsimp only
  rw [desR_flat h5]
end Go.Proofs.YtjmlmelcppbefaaGreatDoor
