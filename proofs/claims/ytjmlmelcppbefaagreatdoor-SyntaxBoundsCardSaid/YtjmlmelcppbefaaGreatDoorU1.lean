/- U1: texts of one kind, one behind the other. No condition but what each law says. -/
import Derived.Test.YtjmlmelcppbefaaGreatDoorT10
import Derived.Test.YtjmlmelcppbefaaGreatDoorT18
import Derived.Test.YtjmlmelcppbefaaGreatDoorT20
import Derived.Test.YtjmlmelcppbefaaGreatDoorT30
namespace Go.Proofs.YtjmlmelcppbefaaGreatDoor
section
variable (T : List Wd)
def xE (n i : Nat) : PR Ex := pE T (4 * T.length + 4) n i
def xL (n m : Nat) (l : Ex) (i : Nat) : PR Ex := pL T (4 * T.length + 4) n m l i
def xU (i : Nat) : PR Ex := pU T (4 * T.length + 4) i
def xP (i : Nat) : PR Ex := pP T (4 * T.length + 4) i
theorem pE_x {f n i : Nat} (hi : i ≤ T.length) (hf : f + 1 = 4 * T.length + 4) (hb : 4 * (T.length - i) + 3 ≤ f) : pE T f n i = xE T n i := by
  obtain ⟨R, hR, _⟩ := (pTotal T f).1 n i hi hb
  rw [hR, xE, ← hf, (pMono T f).1 _ _ _ hR]
theorem pL_x {f n m i : Nat} {l : Ex} (hi : i ≤ T.length) (hf : f + 1 = 4 * T.length + 4) (hb : 4 * (T.length - i) + 1 ≤ f) : pL T f n m l i = xL T n m l i := by
  obtain ⟨R, hR, _⟩ := (pTotal T f).2.1 n m l i hi hb
  rw [hR, xL, ← hf, (pMono T f).2.1 _ _ _ _ _ hR]
theorem pU_x {f i : Nat} (hi : i ≤ T.length) (hf : f + 1 = 4 * T.length + 4) (hb : 4 * (T.length - i) + 2 ≤ f) : pU T f i = xU T i := by
  obtain ⟨R, hR, _⟩ := (pTotal T f).2.2.1 i hi hb
  rw [hR, xU, ← hf, (pMono T f).2.2.1 _ _ hR]
theorem pP_x {f i : Nat} (hi : i ≤ T.length) (hf : f + 1 = 4 * T.length + 4) (hb : 4 * (T.length - i) + 1 ≤ f) : pP T f i = xP T i := by
  obtain ⟨R, hR, _⟩ := (pTotal T f).2.2.2 i hi hb
  rw [hR, xP, ← hf, (pMono T f).2.2.2 _ _ hR]
theorem xU_adv {i j : Nat} {x : Ex} (hi : i ≤ T.length) (h : xU T i = some (.ok (x, j))) : i < j ∧ j ≤ T.length := by
  obtain ⟨R, hR, hA⟩ := (pTotal T (4 * T.length + 4)).2.2.1 i hi (by omega)
  rw [xU, hR] at h
  exact hA x j (Option.some.inj h)
theorem xE_adv {n i j : Nat} {x : Ex} (hi : i ≤ T.length) (h : xE T n i = some (.ok (x, j))) : i < j ∧ j ≤ T.length := by
  obtain ⟨R, hR, hA⟩ := (pTotal T (4 * T.length + 4)).1 n i hi (by omega)
  rw [xE, hR] at h
  exact hA x j (Option.some.inj h)
theorem andT_congr {α β : Type} {x : PR α} {k k' : α → Nat → PR β} (h : ∀ a j, x = some (.ok (a, j)) → k a j = k' a j) : andT x k = andT x k' := by
  rcases x with _ | (j | ⟨a, j⟩)
  · rfl
  · rfl
  · exact h a j rfl
theorem xE_eq {n i : Nat} (hi : i ≤ T.length) : xE T n i = andT (xU T i) fun l j => xL T n 6 l j := by
  rw [xE, show 4 * T.length + 4 = (4 * T.length + 3) + 1 from rfl, pE, pU_x T hi rfl (by omega)]
  exact andT_congr fun a j h => pL_x T (xU_adv T hi h).2 rfl (by omega)
theorem xL_eq {n m i : Nat} {l : Ex} (_hi : i ≤ T.length) : xL T n m l i = if opAt T i = 0 ∨ rankOf (opAt T i) < n ∨ m < rankOf (opAt T i) then some (.ok (l, i))
    else andT (xE T (rankOf (opAt T i) + 1) (i + 1)) fun x j => xL T n (nextM (rankOf (opAt T i))) (exBin (opAt T i) l x) j := by
  rw [xL, show 4 * T.length + 4 = (4 * T.length + 3) + 1 from rfl, pL]
  split
  · rfl
  · rename_i hc
    have hlt := opAt_lt T (fun e => hc (.inl e))
    rw [pE_x T (by omega) rfl (by omega)]
    exact andT_congr fun a j h => pL_x T (xE_adv T (by omega) h).2 rfl (by omega)
theorem xU_eq {i : Nat} (hi : i ≤ T.length) : xU T i = if isT T i sMinus = true then andT (xU T (i + 1)) fun x j => some (.ok (exNeg x, j))
    else if isT T i sNot = true then andT (xU T (i + 1)) fun x j => some (.ok (exNot x, j)) else xP T i := by
  rw [xU, show 4 * T.length + 4 = (4 * T.length + 3) + 1 from rfl, pU]
  split
  · rename_i hc
    have := isT_lt T hc
    rw [pU_x T (by omega) rfl (by omega)]
  split
  · rename_i hc
    have := isT_lt T hc
    rw [pU_x T (by omega) rfl (by omega)]
  · exact pP_x T hi rfl (by omega)
theorem xP_eq {i : Nat} (_hi : i ≤ T.length) : xP T i = if isT T i sOpen = true then andT (xE T 1 (i + 1)) fun x j => andT (want T sShut j) fun _ k => some (.ok (x, k))
    else if kindAt T i = 2 then some (.ok (exNum (T.getD i default).num, i + 1))
    else andT (pName T i) fun s j => if isT T j sBrO = true then andT (xE T 1 (j + 1)) fun x k => andT (want T sBrS k) fun _ m => some (.ok (exCell s x, m)) else some (.ok (exName s, j)) := by
  rw [xP, show 4 * T.length + 4 = (4 * T.length + 3) + 1 from rfl, pP]
  split
  · rename_i hc
    have := isT_lt T hc
    rw [pE_x T (by omega) rfl (by omega)]
  split
  · rfl
  · refine andT_congr fun s j h => ?_
    obtain ⟨rfl, h2⟩ := pName_ok T h
    split
    · rename_i hc
      have := isT_lt T hc
      rw [pE_x T (by omega) rfl (by omega)]
    · rfl
end
end Go.Proofs.YtjmlmelcppbefaaGreatDoor

namespace Go.Proofs.YtjmlmelcppbefaaGreatDoor

structure Ky where
  kind : Int
  text : ByteArray
  num : Int
instance : Inhabited Ky := ⟨⟨0, noB, 0⟩⟩
def stp (t : Wd) : Ky := ⟨t.kind, t.text, t.num⟩
def tkS (s : ByteArray) : Ky := ⟨4, s, 0⟩
def tkK (s : ByteArray) : Ky := ⟨3, s, 0⟩
def tkN (s : ByteArray) : Ky := ⟨1, s, 0⟩
def tkI (n : Int) : Ky := ⟨2, bS (Lib.itoa n), n⟩
def AtT (T : List Wd) (i : Nat) (U : List Ky) : Prop := ∀ j, j < U.length → i + j < T.length ∧ stp (T.getD (i + j) default) = U.getD j default
theorem AtT.nil {T : List Wd} {i : Nat} : AtT T i [] := fun j hj => by cases hj
theorem AtT.cons {T : List Wd} {i : Nat} {u : Ky} {V : List Ky} (h : AtT T i (u :: V)) : i < T.length ∧ stp (T.getD i default) = u ∧ AtT T (i + 1) V :=
  ⟨(h 0 (by simp)).1, (h 0 (by simp)).2, fun j hj => by
    have := h (j + 1) (by simpa using hj)
    rw [show i + (j + 1) = i + 1 + j by omega] at this
    simpa using this⟩
theorem AtT.left {T : List Wd} {i : Nat} {U V : List Ky} (h : AtT T i (U ++ V)) : AtT T i U := fun j hj => by
  have := h j (by rw [List.length_append]; omega)
  rw [List.getD_eq_getElem?_getD, List.getD_eq_getElem?_getD, List.getElem?_append_left hj] at this
  rwa [List.getD_eq_getElem?_getD, List.getD_eq_getElem?_getD]
theorem AtT.right {T : List Wd} {i : Nat} {U V : List Ky} (h : AtT T i (U ++ V)) : AtT T (i + U.length) V := fun j hj => by
  have := h (U.length + j) (by rw [List.length_append]; omega)
  rw [List.getD_eq_getElem?_getD, List.getD_eq_getElem?_getD, List.getElem?_append_right (by omega), show U.length + j - U.length = j by omega, ← Nat.add_assoc] at this
  rwa [List.getD_eq_getElem?_getD, List.getD_eq_getElem?_getD]
theorem AtT.len {T : List Wd} {i : Nat} {U : List Ky} (h : AtT T i U) (hi : i ≤ T.length) : i + U.length ≤ T.length := by
  rcases Nat.eq_zero_or_pos U.length with h0 | h0
  · omega
  · have := (h (U.length - 1) (by omega)).1
    omega
section
variable {T : List Wd} {i : Nat} {u : Ky}
theorem kind_of (hi : i < T.length) (h : stp (T.getD i default) = u) : kindAt T i = u.kind := by
  rw [← h, kindAt, if_pos hi]
  rfl
theorem text_of (h : stp (T.getD i default) = u) : (T.getD i default).text = u.text := by rw [← h]; rfl
theorem num_of (h : stp (T.getD i default) = u) : (T.getD i default).num = u.num := by rw [← h]; rfl
theorem isT_of (hi : i < T.length) (h : stp (T.getD i default) = u) (s : ByteArray) : isT T i s = ((decide (u.kind = 3) || decide (u.kind = 4)) && decide (u.text = s)) := by
  rw [isT, ← h, decide_eq_true hi, Bool.true_and]
  rfl
theorem opAt_of (hi : i < T.length) (h : stp (T.getD i default) = u) : opAt T i = if u.kind = 4 then opOf u.text else 0 := by
  rw [opAt, kind_of hi h, text_of h]
end
mutual
def exC : Ex → Ex
  | .mk k n s _ _ o args => .mk k n s 0 false o (exCs args)
def exCs : List Ex → List Ex
  | [] => []
  | x :: r => exC x :: exCs r
end
def parK (b n : Nat) (t : List Ky) : List Ky := if b < n then tkS sOpen :: (t ++ [tkS sShut]) else t
def tkE : Ex → List Ky
  | .mk k n s _ _ _ [] => if k = 1 then [tkI n] else [tkN s]
  | .mk k _ s _ _ _ [x] => if k = 3 then tkN s :: tkS sBrO :: (tkE x ++ [tkS sBrS]) else tkS (if k = 4 then sMinus else sNot) :: parK x.bind 6 (tkE x)
  | .mk _ _ _ _ _ o [x, y] => parK x.bind (if rankOf o.toNat = 3 then 4 else rankOf o.toNat) (tkE x) ++ (tkS (opS.getD o.toNat noB) :: parK y.bind (rankOf o.toNat + 1) (tkE y))
  | _ => []
def Mx (b : Nat) : Nat := if 6 ≤ b then 6 else nextM b
structure PE (T : List Wd) (e : Ex) : Prop where
  ex : ∀ n i, 1 ≤ n → n ≤ e.bind → i ≤ T.length → AtT T i (tkE e) → isT T (i + (tkE e).length) sBrO = false → (opAt T (i + (tkE e).length) = 0 ∨ 6 ≤ e.bind ∨ rankOf (opAt T (i + (tkE e).length)) ≤ e.bind) → xE T n i = xL T n (Mx e.bind) (exC e) (i + (tkE e).length)
  un : ∀ i, 6 ≤ e.bind → i ≤ T.length → AtT T i (tkE e) → isT T (i + (tkE e).length) sBrO = false → xU T i = some (.ok (exC e, i + (tkE e).length))
theorem PE.of_un {T : List Wd} {e : Ex} (h6 : 6 ≤ e.bind) (h : ∀ i, i ≤ T.length → AtT T i (tkE e) → isT T (i + (tkE e).length) sBrO = false → xU T i = some (.ok (exC e, i + (tkE e).length))) : PE T e := by
  refine ⟨fun n i _ _ hi hA hb _ => ?_, fun i _ hi hA hb => h i hi hA hb⟩
  rw [xE_eq T hi, h i hi hA hb, andT_ok, Mx, if_pos h6]
theorem xL_stop {T : List Wd} {n m j : Nat} {l : Ex} (hj : j ≤ T.length) (h : opAt T j = 0 ∨ rankOf (opAt T j) < n) : xL T n m l j = some (.ok (l, j)) := by
  rw [xL_eq T hj, if_pos (by omega)]
theorem paren {T : List Wd} {e : Ex} (h : PE T e) (hb : 1 ≤ e.bind) {i : Nat} (hi : i ≤ T.length) (hA : AtT T i (tkS sOpen :: (tkE e ++ [tkS sShut]))) : xU T i = some (.ok (exC e, i + ((tkE e).length + 2))) := by
  obtain ⟨h1, h2, h3⟩ := hA.cons
  have h4 := h3.left
  obtain ⟨h5, h6, _⟩ := h3.right.cons
  have e1 : isT T i sMinus = false := by rw [isT_of h1 h2]; decide +kernel
  have e2 : isT T i sNot = false := by rw [isT_of h1 h2]; decide +kernel
  have e3 : isT T i sOpen = true := by rw [isT_of h1 h2]; decide +kernel
  have e4 : opAt T (i + 1 + (tkE e).length) = 0 := by rw [opAt_of h5 h6]; decide +kernel
  have e5 : isT T (i + 1 + (tkE e).length) sShut = true := by rw [isT_of h5 h6]; decide +kernel
  have e6 : isT T (i + 1 + (tkE e).length) sBrO = false := by rw [isT_of h5 h6]; decide +kernel
  rw [xU_eq T hi, e1, e2, if_neg (by decide), if_neg (by decide), xP_eq T hi, e3, if_pos rfl, h.ex 1 (i + 1) (Nat.le_refl _) hb (by omega) h4 e6 (.inl e4), xL_stop (by omega) (.inl e4), andT_ok, want, e5, if_pos rfl, andT_ok]
  rw [show i + 1 + (tkE e).length + 1 = i + ((tkE e).length + 2) by omega]
theorem bind_pos (nm : ByteArray → Bool) : ∀ (e : Ex) (d : Nat), exR nm e d = true → 1 ≤ e.bind := by
  intro e d h
  obtain ⟨k, n, s, sl, lo, o, args⟩ := e
  simp only [Ex.bind]
  split
  · rename_i hk
    match args with
    | [] => simp [exR, hk] at h
    | [x] => simp [exR, hk] at h
    | [x, y] =>
      simp only [exR, Bool.and_eq_true, decide_eq_true_eq] at h
      have h1 := h.2.2.2.2.1.2
      have h3 : ∀ j : Fin 12, 1 ≤ j.val → 1 ≤ rankOf j.val := by decide
      have h4 : o.toNat < 12 ∧ 1 ≤ o.toNat := by omega
      exact h3 ⟨o.toNat, h4.1⟩ h4.2
    | _ :: _ :: _ :: _ => simp [exR] at h
  · split <;> omega
theorem op_text : ∀ j : Fin 12, 1 ≤ j.val → opOf (opS.getD j.val noB) = j.val := by decide +kernel
theorem op_nbr : ∀ j : Fin 12, decide (opS.getD j.val noB = sBrO) = false := by decide +kernel
theorem rank_le : ∀ j : Fin 12, rankOf j.val ≤ 5 := by decide
theorem rank_pos : ∀ j : Fin 12, 1 ≤ j.val → 1 ≤ rankOf j.val := by decide
theorem parse_ex (T : List Wd) (nm : ByteArray → Bool) : ∀ (e : Ex) (d : Nat), exR nm e d = true → PE T e
  | .mk k n s sl lo o [], d, h => by
    simp only [exR, Bool.and_eq_true, Bool.or_eq_true, decide_eq_true_eq] at h
    obtain ⟨-, hn, ho, hs, hk⟩ := h
    rcases hk with ⟨rfl, hn1⟩ | rfl
    · rw [if_neg (by decide)] at hs
      simp only [decide_eq_true_eq] at hs
      have ho' : o = 0 := ho.resolve_left (by decide)
      subst hs ho'
      refine PE.of_un (by simp [Ex.bind]) fun i hi hA hbr => ?_
      have hA' : AtT T i [tkI n] := by simpa [tkE] using hA
      obtain ⟨h1, h2, _⟩ := hA'.cons
      have e1 : isT T i sMinus = false := by rw [isT_of h1 h2]; rfl
      have e2 : isT T i sNot = false := by rw [isT_of h1 h2]; rfl
      have e3 : isT T i sOpen = false := by rw [isT_of h1 h2]; rfl
      have e4 : kindAt T i = 2 := by rw [kind_of h1 h2]; rfl
      rw [xU_eq T hi, e1, e2, if_neg (by decide), if_neg (by decide), xP_eq T hi, e3, if_neg (by decide), if_pos e4, num_of h2]
      simp [tkE, exC, exCs, exNum, tkI]
    · have hn' : n = 0 := hn.resolve_left (by decide)
      have ho' : o = 0 := ho.resolve_left (by decide)
      subst hn' ho'
      refine PE.of_un (by simp [Ex.bind]) fun i hi hA hbr => ?_
      have hA' : AtT T i [tkN s] := by simpa [tkE] using hA
      obtain ⟨h1, h2, _⟩ := hA'.cons
      have e1 : isT T i sMinus = false := by rw [isT_of h1 h2]; rfl
      have e2 : isT T i sNot = false := by rw [isT_of h1 h2]; rfl
      have e3 : isT T i sOpen = false := by rw [isT_of h1 h2]; rfl
      have e4 : kindAt T i = 1 := by rw [kind_of h1 h2]; rfl
      have e9 : (tkE (.mk 2 0 s sl lo 0 [])).length = 1 := by simp [tkE]
      rw [e9] at hbr
      rw [xU_eq T hi, e1, e2, if_neg (by decide), if_neg (by decide), xP_eq T hi, e3, if_neg (by decide), if_neg (by rw [e4]; decide), pName, if_pos e4, andT_ok, hbr, if_neg (by decide), text_of h2, e9]
      simp [exC, exCs, exName, tkN]
  | .mk k n s sl lo o [x], d, h => by
    simp only [exR, Bool.and_eq_true, Bool.or_eq_true, decide_eq_true_eq] at h
    obtain ⟨-, hn, ho, hs, hk, hx⟩ := h
    have ih := parse_ex T nm x (d - 1) hx
    have hb := bind_pos nm x (d - 1) hx
    rcases hk with rfl | hk
    · have hn' : n = 0 := hn.resolve_left (by decide)
      have ho' : o = 0 := ho.resolve_left (by decide)
      subst hn' ho'
      refine PE.of_un (by simp [Ex.bind]) fun i hi hA hbr => ?_
      have hA' : AtT T i (tkN s :: tkS sBrO :: (tkE x ++ [tkS sBrS])) := by simpa [tkE] using hA
      obtain ⟨h1, h2, h3⟩ := hA'.cons
      obtain ⟨h4, h5, h6⟩ := h3.cons
      have h7 := h6.left
      obtain ⟨h8, h9, _⟩ := h6.right.cons
      have e1 : isT T i sMinus = false := by rw [isT_of h1 h2]; rfl
      have e2 : isT T i sNot = false := by rw [isT_of h1 h2]; rfl
      have e3 : isT T i sOpen = false := by rw [isT_of h1 h2]; rfl
      have e4 : kindAt T i = 1 := by rw [kind_of h1 h2]; rfl
      have e5 : isT T (i + 1) sBrO = true := by rw [isT_of h4 h5]; decide +kernel
      have e6 : opAt T (i + 1 + 1 + (tkE x).length) = 0 := by rw [opAt_of h8 h9]; decide +kernel
      have e7 : isT T (i + 1 + 1 + (tkE x).length) sBrS = true := by rw [isT_of h8 h9]; decide +kernel
      have e10 : isT T (i + 1 + 1 + (tkE x).length) sBrO = false := by rw [isT_of h8 h9]; decide +kernel
      rw [xU_eq T hi, e1, e2, if_neg (by decide), if_neg (by decide), xP_eq T hi, e3, if_neg (by decide), if_neg (by rw [e4]; decide), pName, if_pos e4, andT_ok, e5, if_pos rfl,
        ih.ex 1 (i + 1 + 1) (Nat.le_refl _) hb (by omega) h7 e10 (.inl e6), xL_stop (by omega) (.inl e6), andT_ok, want, e7, if_pos rfl, andT_ok, text_of h2]
      have e8 : exC (.mk 3 0 s sl lo 0 [x]) = exCell s (exC x) := by simp [exC, exCs, exCell]
      rw [e8]
      have e9 : (tkE (.mk 3 0 s sl lo 0 [x])).length = (tkE x).length + 3 := by simp [tkE]
      rw [e9, show i + 1 + 1 + (tkE x).length + 1 = i + ((tkE x).length + 3) by omega]
      rfl
    · have hk3 : k ≠ 3 := by omega
      have hn' : n = 0 := hn.resolve_left (by omega)
      have ho' : o = 0 := ho.resolve_left (by omega)
      rw [if_neg (by omega)] at hs
      simp only [decide_eq_true_eq] at hs
      subst hn' ho' hs
      have hb6 : 6 ≤ (Ex.mk k 0 noB sl lo 0 [x]).bind := by
        simp only [Ex.bind]
        rw [if_neg (by omega), if_pos hk]
        exact Nat.le_refl _
      refine PE.of_un hb6 fun i hi hA hbr => ?_
      have hA' : AtT T i (tkS (if k = 4 then sMinus else sNot) :: parK x.bind 6 (tkE x)) := by simpa [tkE, hk3] using hA
      obtain ⟨h1, h2, h3⟩ := hA'.cons
      have e9 : (tkE (.mk k 0 noB sl lo 0 [x])).length = 1 + (parK x.bind 6 (tkE x)).length := by
        simp only [tkE, if_neg hk3, List.length_cons]
        omega
      rw [e9, ← Nat.add_assoc] at hbr
      have hun : xU T (i + 1) = some (.ok (exC x, i + 1 + (parK x.bind 6 (tkE x)).length)) := by
        unfold parK at h3 ⊢
        by_cases hl : x.bind < 6
        · rw [if_pos hl] at h3 ⊢
          rw [paren ih hb (by omega) h3]
          simp
        · unfold parK at hbr
          rw [if_neg hl] at h3 hbr ⊢
          exact ih.un (i + 1) (by omega) (by omega) h3 hbr
      rcases hk with rfl | rfl
      · have e1 : isT T i sMinus = true := by rw [isT_of h1 h2]; decide +kernel
        rw [xU_eq T hi, e1, if_pos rfl, hun, andT_ok, e9, Nat.add_assoc]
        simp [exC, exCs, exNeg]
      · have e1 : isT T i sMinus = false := by rw [isT_of h1 h2]; decide +kernel
        have e2 : isT T i sNot = true := by rw [isT_of h1 h2]; decide +kernel
        rw [xU_eq T hi, e1, if_neg (by decide), e2, if_pos rfl, hun, andT_ok, e9, Nat.add_assoc]
        simp [exC, exCs, exNot]
  | .mk k n s sl lo o [x, y], d, h => by
    simp only [exR, Bool.and_eq_true, Bool.or_eq_true, decide_eq_true_eq] at h
    obtain ⟨-, hn, -, hs, ⟨rfl, ho1, ho2⟩, hx, hy⟩ := h
    have hn' : n = 0 := hn.resolve_left (by decide)
    rw [if_neg (by decide)] at hs
    simp only [decide_eq_true_eq] at hs
    subst hn' hs
    have ihx := parse_ex T nm x (d - 1) hx
    have ihy := parse_ex T nm y (d - 1) hy
    have hbx := bind_pos nm x (d - 1) hx
    have hby := bind_pos nm y (d - 1) hy
    obtain ⟨q, rfl⟩ : ∃ q : Nat, o = q := ⟨o.toNat, by omega⟩
    have hq : q < 12 ∧ 1 ≤ q := by omega
    have hop : opOf (opS.getD q noB) = q := op_text ⟨q, hq.1⟩ hq.2
    have hr5 : rankOf q ≤ 5 := rank_le ⟨q, hq.1⟩
    have hr1 : 1 ≤ rankOf q := rank_pos ⟨q, hq.1⟩ hq.2
    have hbd : (Ex.mk 6 0 noB sl lo (q : Int) [x, y]).bind = rankOf q := by simp [Ex.bind]
    obtain ⟨r, hr⟩ : ∃ r, rankOf q = r := ⟨_, rfl⟩
    obtain ⟨lv, hlv⟩ : ∃ lv, (if r = 3 then 4 else r) = lv := ⟨_, rfl⟩
    have hlv1 : r ≤ lv ∧ lv ≤ 6 ∧ (r = 3 → lv = 4) ∧ (r ≠ 3 → lv = r) := by
      rw [← hlv]
      split <;> omega
    refine ⟨fun n i hn1 hn2 hi hA hbr hst => ?_, fun i h6 _ _ _ => by omega⟩
    rw [hbd, hr] at hn2 hst
    have e0 : tkE (.mk 6 0 noB sl lo (q : Int) [x, y]) = parK x.bind lv (tkE x) ++ (tkS (opS.getD q noB) :: parK y.bind (r + 1) (tkE y)) := by
      simp only [tkE, Int.toNat_natCast, hr, hlv]
    rw [e0] at hA hbr hst ⊢
    obtain ⟨UX, hUX⟩ : ∃ U, parK x.bind lv (tkE x) = U := ⟨_, rfl⟩
    obtain ⟨UY, hUY⟩ : ∃ U, parK y.bind (r + 1) (tkE y) = U := ⟨_, rfl⟩
    rw [hUX, hUY] at hA hbr hst ⊢
    have hAx := hA.left
    obtain ⟨h1, h2, hAy⟩ := hA.right.cons
    have hop1 : opAt T (i + UX.length) = q := by rw [opAt_of h1 h2]; simp only [tkS, if_true]; exact hop
    have hlen : i + (UX ++ (tkS (opS.getD q noB) :: UY)).length = i + UX.length + 1 + UY.length := by simp; omega
    rw [hlen] at hbr hst ⊢
    have hbrx : isT T (i + UX.length) sBrO = false := by
      rw [isT_of h1 h2]
      have : decide (opS.getD q noB = sBrO) = false := op_nbr ⟨q, hq.1⟩
      show ((decide ((4 : Int) = 3) || decide ((4 : Int) = 4)) && decide (opS.getD q noB = sBrO)) = false
      rw [this]
      exact Bool.and_false _
    have hr6 : r ≤ 5 := by omega
    have hst2 : opAt T (i + UX.length + 1 + UY.length) = 0 ∨ rankOf (opAt T (i + UX.length + 1 + UY.length)) ≤ r := by omega
    have hiX : i + UX.length ≤ T.length := by omega
    have hiY := hAy.len (by omega)
    have hL : ∃ m, r ≤ m ∧ xE T n i = xL T n m (exC x) (i + UX.length) := by
      unfold parK at hUX
      by_cases hl : x.bind < lv
      · rw [if_pos hl] at hUX
        subst hUX
        refine ⟨6, by omega, ?_⟩
        rw [xE_eq T hi, paren ihx hbx hi hAx, andT_ok]
        simp
      · rw [if_neg hl] at hUX
        subst hUX
        refine ⟨Mx x.bind, ?_, ihx.ex n i hn1 (by omega) hi hAx hbrx (.inr (.inr (by rw [hop1, hr]; omega)))⟩
        unfold Mx nextM
        split
        · omega
        · split <;> omega
    have hR : xE T (r + 1) (i + UX.length + 1) = some (.ok (exC y, i + UX.length + 1 + UY.length)) := by
      unfold parK at hUY
      by_cases hl : y.bind < r + 1
      · rw [if_pos hl] at hUY
        subst hUY
        rw [xE_eq T (by omega), paren ihy hby (by omega) hAy, andT_ok]
        rw [show i + UX.length + 1 + ((tkE y).length + 2) = i + UX.length + 1 + (tkS sOpen :: (tkE y ++ [tkS sShut])).length by simp]
        exact xL_stop hiY (by omega)
      · rw [if_neg hl] at hUY
        subst hUY
        rw [ihy.ex (r + 1) _ (by omega) (by omega) (by omega) hAy hbr (by omega)]
        exact xL_stop hiY (by omega)
    obtain ⟨m, hm, hL⟩ := hL
    have hcond : ¬ (opAt T (i + UX.length) = 0 ∨ rankOf (opAt T (i + UX.length)) < n ∨ m < rankOf (opAt T (i + UX.length))) := by rw [hop1, hr]; omega
    rw [hL, xL_eq T hiX, if_neg hcond, hop1, hr, hR, andT_ok, hbd, hr]
    have hMx : Mx r = nextM r := by unfold Mx; rw [if_neg (by omega)]
    rw [hMx]
    simp [exC, exCs, exBin]
  | .mk k n s sl lo o (_ :: _ :: _ :: _), d, h => by simp [exR] at h
end Go.Proofs.YtjmlmelcppbefaaGreatDoor

namespace Go.Proofs.YtjmlmelcppbefaaGreatDoor
section
variable (T : List Wd)
theorem andT_mono {α β : Type} {x x' : PR α} {k k' : α → Nat → PR β} {R : Except Nat (β × Nat)} (hx : ∀ Q, x = some Q → x' = some Q) (hk : ∀ a j Q, k a j = some Q → k' a j = some Q) (h : andT x k = some R) : andT x' k' = some R := by
  rcases hq : x with _ | (j | ⟨a, j⟩)
  · rw [hq] at h; cases h
  · rw [hq] at h; rw [hx _ hq]; exact h
  · rw [hq] at h; rw [hx _ hq]; exact hk _ _ _ h
theorem pSMono : ∀ f, (∀ i R, pB T f i = some R → pB T (f + 1) i = some R) ∧ (∀ acc i R, pSs T f acc i = some R → pSs T (f + 1) acc i = some R) ∧ (∀ i R, pS T f i = some R → pS T (f + 1) i = some R) := by
  intro f
  induction f with
  | zero => exact ⟨fun _ _ h => by simp [pB] at h, fun _ _ _ h => by simp [pSs] at h, fun _ _ h => by simp [pS] at h⟩
  | succ f ih =>
    obtain ⟨hB, hSs, hS⟩ := ih
    refine ⟨fun i R h => ?_, fun acc i R h => ?_, fun i R h => ?_⟩
    · rw [pB] at h ⊢
      exact andT_mono (fun _ h => h) (fun _ j Q h => hSs _ _ _ h) h
    · rw [pSs] at h ⊢
      split at h
      · rename_i hc; rw [if_pos hc]; exact h
      · rename_i hc; rw [if_neg hc]; exact andT_mono (fun Q h => hS _ _ h) (fun _ j Q h => hSs _ _ _ h) h
    · rw [pS] at h ⊢
      split at h
      · rename_i hc; rw [if_pos hc]; exact h
      rename_i hc; rw [if_neg hc]
      split at h
      · rename_i hc; rw [if_pos hc]; exact h
      rename_i hc; rw [if_neg hc]
      split at h
      · rename_i hc; rw [if_pos hc]
        exact andT_mono (fun _ h => h) (fun x j Q h => andT_mono (fun Q h => hB _ _ h) (fun _ _ _ h => h) h) h
      rename_i hc; rw [if_neg hc]
      split at h
      · rename_i hc; rw [if_pos hc]
        refine andT_mono (fun _ h => h) (fun x j Q h => andT_mono (fun Q h => hB _ _ h) (fun b m Q h => ?_) h) h
        split at h
        · rename_i hc; rw [if_pos hc]
          exact andT_mono (fun Q h => hB _ _ h) (fun _ _ _ h => h) h
        · rename_i hc; rw [if_neg hc]; exact h
      · rename_i hc; rw [if_neg hc]; exact h
def xB (i : Nat) : PR (List St) := pB T (3 * T.length + 3) i
def xSs (acc : List St) (i : Nat) : PR (List St) := pSs T (3 * T.length + 3) acc i
def xS (i : Nat) : PR St := pS T (3 * T.length + 3) i
theorem pB_x {f i : Nat} (hi : i ≤ T.length) (hf : f + 1 = 3 * T.length + 3) (hb : 3 * (T.length - i) + 1 ≤ f) : pB T f i = xB T i := by
  obtain ⟨R, hR, _⟩ := (pSTotal T f).1 i hi hb
  rw [hR, xB, ← hf, (pSMono T f).1 _ _ hR]
theorem pSs_x {f i : Nat} {acc : List St} (hi : i ≤ T.length) (hf : f + 1 = 3 * T.length + 3) (hb : 3 * (T.length - i) + 2 ≤ f) : pSs T f acc i = xSs T acc i := by
  obtain ⟨R, hR, _⟩ := (pSTotal T f).2.1 acc i hi hb
  rw [hR, xSs, ← hf, (pSMono T f).2.1 _ _ _ hR]
theorem pS_x {f i : Nat} (hi : i ≤ T.length) (hf : f + 1 = 3 * T.length + 3) (hb : 3 * (T.length - i) + 1 ≤ f) : pS T f i = xS T i := by
  obtain ⟨R, hR, _⟩ := (pSTotal T f).2.2 i hi hb
  rw [hR, xS, ← hf, (pSMono T f).2.2 _ _ hR]
theorem xS_adv {i j : Nat} {x : St} (hi : i ≤ T.length) (h : xS T i = some (.ok (x, j))) : i < j ∧ j ≤ T.length := by
  obtain ⟨R, hR, hA⟩ := (pSTotal T (3 * T.length + 3)).2.2 i hi (by omega)
  rw [xS, hR] at h
  exact hA x j (Option.some.inj h)
theorem xB_adv {i j : Nat} {x : List St} (hi : i ≤ T.length) (h : xB T i = some (.ok (x, j))) : i < j ∧ j ≤ T.length := by
  obtain ⟨R, hR, hA⟩ := (pSTotal T (3 * T.length + 3)).1 i hi (by omega)
  rw [xB, hR] at h
  exact hA x j (Option.some.inj h)
theorem pX_adv {i j : Nat} {x : Ex} (hi : i ≤ T.length) (h : pX T i = some (.ok (x, j))) : i < j ∧ j ≤ T.length := by
  obtain ⟨R, hR, hA⟩ := pX_total T hi
  rw [hR] at h
  exact hA x j (Option.some.inj h)
theorem xB_eq {i : Nat} (_hi : i ≤ T.length) : xB T i = andT (want T sBlO i) fun _ j => xSs T [] j := by
  rw [xB, show 3 * T.length + 3 = (3 * T.length + 2) + 1 from rfl, pB]
  refine andT_congr fun _ j h => ?_
  obtain ⟨rfl, h2⟩ := want_ok T h
  exact pSs_x T (by omega) rfl (by omega)
theorem xSs_eq {i : Nat} {acc : List St} (hi : i ≤ T.length) : xSs T acc i = if isT T i sBlS = true then some (.ok (acc, i + 1)) else andT (xS T i) fun s j => xSs T (acc ++ [s]) j := by
  rw [xSs, show 3 * T.length + 3 = (3 * T.length + 2) + 1 from rfl, pSs]
  split
  · rfl
  · rw [pS_x T hi rfl (by omega)]
    refine andT_congr fun _ j h => ?_
    have := xS_adv T hi h
    exact pSs_x T (by omega) rfl (by omega)
theorem xS_eq {i : Nat} (_hi : i ≤ T.length) : xS T i =
    if kindAt T i = 1 then pAssign T (plOf T i) i
    else if kindAt T i ≠ 3 ∨ stOf (T.getD i default).text = 0 then some (.error i)
    else if stOf (T.getD i default).text = 5 then andT (pX T (i + 1)) fun x j => andT (xB T j) fun b m => some (.ok (mkSt 5 (plOf T i) noB noB x zEx b [], m))
    else if stOf (T.getD i default).text = 4 then andT (pX T (i + 1)) fun x j => andT (xB T j) fun b m =>
      if isT T m wElse = true then andT (xB T (m + 1)) fun c n => some (.ok (mkSt 4 (plOf T i) noB noB x zEx b c, n)) else some (.ok (mkSt 4 (plOf T i) noB noB x zEx b [], m))
    else pPlain T (plOf T i) (stOf (T.getD i default).text) (i + 1) := by
  rw [xS, show 3 * T.length + 3 = (3 * T.length + 2) + 1 from rfl, pS]
  split
  · rfl
  split
  · rfl
  rename_i hc
  have hk : kindAt T i = 3 := by
    rcases Int.decEq (kindAt T i) 3 with h | h
    · exact absurd (.inl h) hc
    · exact h
  have hlt := kind_lt T (i := i) (by rw [hk]; decide)
  split
  · refine andT_congr fun x j h => ?_
    have := pX_adv T (by omega) h
    rw [pB_x T (by omega) rfl (by omega)]
  split
  · refine andT_congr fun x j h => ?_
    have h1 := pX_adv T (by omega) h
    rw [pB_x T (by omega) rfl (by omega)]
    refine andT_congr fun b m h => ?_
    have h2 := xB_adv T (by omega) h
    split
    · rename_i hc
      have := isT_lt T hc
      rw [pB_x T (by omega) rfl (by omega)]
    · rfl
  · rfl
end
end Go.Proofs.YtjmlmelcppbefaaGreatDoor

namespace Go.Proofs.YtjmlmelcppbefaaGreatDoor
open Go.RowKit

def sgnL (L : List UInt8) : Nat := if 2 ≤ L.length ∧ isSg (L.take 2) = true then 2 else if isSg (L.take 1) then 1 else 0
def badL (L : List UInt8) : Bool := !(numP (L.takeWhile isDig)).2 || ((L.drop (L.takeWhile isDig).length).head?.any isLet)
def wordL (L : List UInt8) : Int × Nat × Int × Int :=
  if isLet (L.headD 0) then (if isKw (L.takeWhile isAny) then 3 else 1, (L.takeWhile isAny).length, 0, if isKw (L.takeWhile isAny) then 0 else if 16 < (L.takeWhile isAny).length then 111 else 0)
  else if isDig (L.headD 0) then (2, (L.takeWhile isDig).length, if badL L then 0 else (numP (L.takeWhile isDig)).1, if badL L then 112 else 0)
  else (4, sgnL L, 0, if sgnL L = 0 then 110 else 0)
theorem head_byte {s : ByteArray} {k : Nat} (hk : k < s.size) : (s.data.toList.drop k).headD 0 = byte s k := by rw [drop_byte hk]; rfl
theorem ext_take {s : ByteArray} {k n : Nat} : (s.extract k (k + n)).data.toList = (s.data.toList.drop k).take n := by
  rw [ByteArray.data_extract, Array.toList_extract, List.extract_eq_take_drop]
  congr 1
  omega
theorem sgn_list {s : ByteArray} {k : Nat} (hk : k < s.size) : sgnF s k (min 2 (s.size - k)) = sgnL (s.data.toList.drop k) := by
  have hl : (s.data.toList.drop k).length = s.size - k := by rw [List.length_drop, size_list]
  unfold sgnL
  rw [hl]
  by_cases h2 : 2 ≤ s.size - k
  · rw [show min 2 (s.size - k) = 2 by omega]
    simp only [sgnF, ext_take, h2, true_and]
  · rw [show min 2 (s.size - k) = 1 by omega]
    simp only [sgnF, ext_take, h2, false_and, if_false]
theorem word_list {s : ByteArray} {k : Nat} (hk : k < s.size) :
    wKind s k = (wordL (s.data.toList.drop k)).1 ∧ wEnd s k = k + (wordL (s.data.toList.drop k)).2.1 ∧ wNum s k = (wordL (s.data.toList.drop k)).2.2.1 ∧ wErr s k = (wordL (s.data.toList.drop k)).2.2.2 := by
  have hE : ∀ f, endOf f s k = k + ((s.data.toList.drop k).takeWhile f).length := fun _ => rfl
  have hbad : badP s k = badL (s.data.toList.drop k) := by
    unfold badP badL
    rw [next_let, extract_while, hE, ← List.drop_drop]
  unfold wordL wKind wEnd wNum wErr
  rw [head_byte hk, hbad, sgn_list hk, extract_while, extract_while]
  cases isLet (byte s k) with
  | true =>
    refine ⟨rfl, rfl, rfl, ?_⟩
    simp only [if_true, hE, Nat.add_sub_cancel_left]
  | false =>
    cases isDig (byte s k) with
    | true => exact ⟨rfl, rfl, rfl, rfl⟩
    | false => exact ⟨rfl, rfl, rfl, rfl⟩

theorem takeWhile_put {f : UInt8 → Bool} {L r : List UInt8} (h32 : f 32 = false) : (L.takeWhile f ++ 32 :: r).takeWhile f = L.takeWhile f := by
  rw [List.takeWhile_append_of_pos (fun x hx => List.all_eq_true.1 List.all_takeWhile x hx), List.takeWhile_cons_of_neg (by rw [h32]; decide), List.append_nil]
theorem take_while {f : UInt8 → Bool} (L : List UInt8) : L.take (L.takeWhile f).length = L.takeWhile f := (List.prefix_iff_eq_take.1 (List.takeWhile_prefix f)).symm
theorem rs_32 : ∀ x ∈ rsL, ∀ c ∈ x.data.toList, c ≠ 32 ∧ c ≠ 35 ∧ isBl c = false := by decide
theorem rs_len : ∀ x ∈ rsL, x.data.toList.length = 1 ∨ x.data.toList.length = 2 := by decide
theorem isSg_32 {t : List UInt8} (h : (32 : UInt8) ∈ t) : isSg t = false := by
  cases hs : isSg t with
  | false => rfl
  | true =>
    obtain ⟨x, hx, he⟩ := (isSg_iff t).1 hs
    rw [← he] at h
    exact absurd rfl (rs_32 x hx 32 h).1
theorem let_any {c : UInt8} (h : isLet c = true) : isAny c = true := by unfold isAny; rw [h]; rfl
theorem dig_any {c : UInt8} (h : isDig c = true) : isAny c = true := by unfold isAny; rw [h]; simp
theorem word_again {L : List UInt8} (hL : L ≠ []) (he : (wordL L).2.2.2 = 0) (r : List UInt8) : wordL (L.take (wordL L).2.1 ++ 32 :: r) = wordL L := by
  match L, hL with
  | c :: q, _ =>
    cases hc : isLet c with
    | true =>
      have ha := let_any hc
      have e : wordL (c :: q) = (if isKw ((c :: q).takeWhile isAny) then 3 else 1, ((c :: q).takeWhile isAny).length, 0, if isKw ((c :: q).takeWhile isAny) then 0 else if 16 < ((c :: q).takeWhile isAny).length then 111 else 0) := by
        unfold wordL
        rw [if_pos (show isLet ((c :: q).headD 0) = true from hc)]
      rw [e]
      simp only [take_while]
      unfold wordL
      have hh : (List.takeWhile isAny (c :: q) ++ 32 :: r).headD 0 = c := by rw [List.takeWhile_cons_of_pos ha]; rfl
      rw [hh, if_pos hc, takeWhile_put (by decide)]
    | false =>
      cases hd : isDig c with
      | true =>
        have e : wordL (c :: q) = (2, ((c :: q).takeWhile isDig).length, if badL (c :: q) then 0 else (numP ((c :: q).takeWhile isDig)).1, if badL (c :: q) then 112 else 0) := by
          unfold wordL
          rw [if_neg (show ¬ isLet ((c :: q).headD 0) = true by show ¬ isLet c = true; rw [hc]; decide), if_pos (show isDig ((c :: q).headD 0) = true from hd)]
        rw [e] at he ⊢
        simp only [take_while] at he ⊢
        have hb : badL (c :: q) = false := by
          cases h : badL (c :: q) with
          | false => rfl
          | true => rw [h] at he; cases he
        have hn : (numP ((c :: q).takeWhile isDig)).2 = true := by
          unfold badL at hb
          simp only [Bool.or_eq_false_iff, Bool.not_eq_false'] at hb
          exact hb.1
        have hb2 : badL (List.takeWhile isDig (c :: q) ++ 32 :: r) = false := by
          unfold badL
          rw [takeWhile_put (by decide), hn, List.drop_left]
          rfl
        unfold wordL
        have hh : (List.takeWhile isDig (c :: q) ++ 32 :: r).headD 0 = c := by rw [List.takeWhile_cons_of_pos hd]; rfl
        rw [hh, if_neg (by rw [hc]; decide), if_pos hd, takeWhile_put (by decide), hb, hb2]
      | false =>
        have e : wordL (c :: q) = (4, sgnL (c :: q), 0, if sgnL (c :: q) = 0 then 110 else 0) := by
          unfold wordL
          rw [if_neg (show ¬ isLet ((c :: q).headD 0) = true by show ¬ isLet c = true; rw [hc]; decide), if_neg (show ¬ isDig ((c :: q).headD 0) = true by show ¬ isDig c = true; rw [hd]; decide)]
        rw [e] at he ⊢
        simp only at he ⊢
        have h0 : sgnL (c :: q) ≠ 0 := fun h => by rw [h] at he; cases he
        have hs : sgnL ((c :: q).take (sgnL (c :: q)) ++ 32 :: r) = sgnL (c :: q) := by
          by_cases h2 : 2 ≤ (c :: q).length ∧ isSg ((c :: q).take 2) = true
          · have e2 : sgnL (c :: q) = 2 := if_pos h2
            rw [e2]
            have hlen : ((c :: q).take 2).length = 2 := by rw [List.length_take]; omega
            unfold sgnL
            rw [if_pos]
            refine ⟨by rw [List.length_append, hlen]; omega, ?_⟩
            rw [List.take_append_of_le_length (by omega), List.take_take]
            exact h2.2
          · have e1 : sgnL (c :: q) = 1 := by
              unfold sgnL at h0 ⊢
              rw [if_neg h2] at h0 ⊢
              split at h0
              · rename_i h
                rw [if_pos h]
              · exact absurd rfl h0
            have h1 : isSg ((c :: q).take 1) = true := by
              unfold sgnL at e1
              rw [if_neg h2] at e1
              split at e1
              · assumption
              · cases e1
            rw [e1]
            show sgnL (c :: 32 :: r) = 1
            unfold sgnL
            rw [if_neg, if_pos]
            · exact h1
            · rintro ⟨_, h3⟩
              have h4 := isSg_32 (t := (c :: 32 :: r).take 2) (by simp)
              rw [h4] at h3
              cases h3
        unfold wordL
        have hh : ((c :: q).take (sgnL (c :: q)) ++ 32 :: r).headD 0 = c := by
          obtain ⟨m, hm⟩ : ∃ m, sgnL (c :: q) = m + 1 := ⟨sgnL (c :: q) - 1, by omega⟩
          rw [hm]
          rfl
        rw [hh, if_neg (by rw [hc]; decide), if_neg (by rw [hd]; decide), hs]
end Go.Proofs.YtjmlmelcppbefaaGreatDoor

namespace Go.Proofs.YtjmlmelcppbefaaGreatDoor
open Go.RowKit

def Ch (s : ByteArray) : Nat → List Wd → Prop
  | k, [] => ¬ gapAt s k < s.size
  | k, t :: r => gapAt s k < s.size ∧ wErr s (gapAt s k) = 0 ∧ t = tokW s (gapAt s k) ∧ Ch s (wEnd s (gapAt s k)) r
theorem Ch.to_lex {s : ByteArray} : ∀ (l : List Wd) (k : Nat) (acc : List Wd), Ch s k l → lexA s k acc = (acc ++ l, (0, 0), 0)
  | [], k, acc, h => by rw [lexA_end h, List.append_nil]
  | t :: r, k, acc, ⟨h1, h2, h3, h4⟩ => by
    rw [← lexA_on h1 h2, Ch.to_lex r _ _ h4, ← h3, List.append_assoc]
    rfl
theorem Ch.of_lex {s : ByteArray} : ∀ n k acc, s.size - k ≤ n → (lexA s k acc).2.2 = 0 → ∃ l, Ch s k l ∧ lexA s k acc = (acc ++ l, (0, 0), 0) := by
  intro n
  induction n with
  | zero =>
    intro k acc hn _
    have h : ¬ gapAt s k < s.size := by have := gap_ge s k; omega
    exact ⟨[], h, by rw [lexA_end h, List.append_nil]⟩
  | succ n ih =>
    intro k acc hn h0
    by_cases h : gapAt s k < s.size
    · by_cases he : wErr s (gapAt s k) = 0
      · have h3 := lex_dec h he
        rw [← lexA_on h he] at h0 ⊢
        obtain ⟨l, h4, h5⟩ := ih _ _ (by omega) h0
        exact ⟨tokW s (gapAt s k) :: l, ⟨h, he, rfl, h4⟩, by rw [h5, List.append_assoc]; rfl⟩
      · rw [lexA_err h he] at h0
        exact absurd h0 he
    · exact ⟨[], h, by rw [lexA_end h, List.append_nil]⟩
theorem Ch.gap {s : ByteArray} {k k' : Nat} (h : gapAt s k' = gapAt s k) : ∀ {l : List Wd}, Ch s k l → Ch s k' l
  | [], hc => by unfold Ch at hc ⊢; rw [h]; exact hc
  | t :: r, hc => by unfold Ch at hc ⊢; rw [h]; exact hc

def Good (t : Wd) : Prop := ∃ L, L ≠ [] ∧ wordL L = (t.kind, t.text.size, t.num, 0) ∧ t.text.data.toList = L.take t.text.size
theorem tok_good {s : ByteArray} {p : Nat} (hp : p < s.size) (he : wErr s p = 0) : Good (tokW s p) := by
  obtain ⟨h1, h2, h3, h4⟩ := word_list hp
  have hle := wEnd_le hp
  have hsz : (tokW s p).text.size = (wordL (s.data.toList.drop p)).2.1 := by
    show (s.extract p (wEnd s p)).size = _
    rw [ByteArray.size_extract]
    omega
  refine ⟨s.data.toList.drop p, by rw [drop_byte hp]; simp, ?_, ?_⟩
  · rw [hsz]
    show _ = (wKind s p, _, wNum s p, 0)
    rw [h1, h3, ← he, h4]
  · rw [hsz]
    show (s.extract p (wEnd s p)).data.toList = _
    rw [h2, ext_take]
def spW (t : Wd) : List UInt8 := t.text.data.toList ++ [32]
theorem good_pos {t : Wd} (h : Good t) : 0 < t.text.size := by
  obtain ⟨L, hL, hw, _⟩ := h
  match L, hL with
  | c :: q, _ =>
    have h2 : (wordL (c :: q)).2.1 = t.text.size := by rw [hw]
    have h4 : (wordL (c :: q)).2.2.2 = 0 := by rw [hw]
    rw [← h2]
    unfold wordL at h4 ⊢
    split
    · rename_i hc
      rw [List.takeWhile_cons_of_pos (let_any (show isLet c = true from hc))]
      exact Nat.succ_pos _
    · split
      · rename_i hd
        rw [List.takeWhile_cons_of_pos (show isDig c = true from hd)]
        exact Nat.succ_pos _
      · rename_i hc hd
        rw [if_neg hc, if_neg hd] at h4
        simp only at h4 ⊢
        have : sgnL (c :: q) ≠ 0 := fun h => by rw [h] at h4; cases h4
        omega
theorem good_head {t : Wd} (h : Good t) : isBl (t.text.data.toList.headD 0) = false ∧ ¬ (t.text.data.toList.headD 0).toNat = 35 := by
  have hpos := good_pos h
  obtain ⟨L, hL, hw, ht⟩ := h
  have hh : t.text.data.toList.headD 0 = L.headD 0 := by
    rw [ht]
    match L, hL with
    | c :: q, _ =>
      obtain ⟨m, hm⟩ : ∃ m, t.text.size = m + 1 := ⟨t.text.size - 1, by omega⟩
      rw [hm]
      rfl
  rw [hh]
  match L, hL with
  | c :: q, _ =>
    show isBl c = false ∧ ¬ c.toNat = 35
    have h4 : (wordL (c :: q)).2.2.2 = 0 := by rw [hw]
    have hn : (wordL (c :: q)).2.1 = t.text.size := by rw [hw]
    cases hc : isLet c with
    | true =>
      unfold isLet at hc
      simp only [Bool.and_eq_true, decide_eq_true_eq] at hc
      unfold isBl
      simp only [Bool.or_eq_false_iff, beq_eq_false_iff_ne]
      omega
    | false =>
      cases hd : isDig c with
      | true =>
        unfold isDig at hd
        simp only [Bool.and_eq_true, decide_eq_true_eq] at hd
        unfold isBl
        simp only [Bool.or_eq_false_iff, beq_eq_false_iff_ne]
        omega
      | false =>
        have e : wordL (c :: q) = (4, sgnL (c :: q), 0, if sgnL (c :: q) = 0 then 110 else 0) := by
          unfold wordL
          rw [if_neg (show ¬ isLet ((c :: q).headD 0) = true by show ¬ isLet c = true; rw [hc]; decide), if_neg (show ¬ isDig ((c :: q).headD 0) = true by show ¬ isDig c = true; rw [hd]; decide)]
        have hex : ∃ x ∈ rsL, c ∈ x.data.toList := by
          rw [e] at h4
          simp only at h4
          have h0 : sgnL (c :: q) ≠ 0 := fun h => by rw [h] at h4; cases h4
          unfold sgnL at h0
          split at h0
          · rename_i h2
            obtain ⟨x, hx, he⟩ := (isSg_iff _).1 h2.2
            exact ⟨x, hx, by rw [he]; simp⟩
          · split at h0
            · rename_i h2
              obtain ⟨x, hx, he⟩ := (isSg_iff _).1 h2
              exact ⟨x, hx, by rw [he]; simp⟩
            · exact absurd rfl h0
        obtain ⟨x, hx, hm⟩ := hex
        have h5 := rs_32 x hx c hm
        refine ⟨h5.2.2, fun h => h5.2.1 ?_⟩
        exact UInt8.toNat_inj.1 (by simpa using h)
def SamW (a b : Wd) : Prop := a.kind = b.kind ∧ a.text = b.text ∧ a.num = b.num
def SamL : List Wd → List Wd → Prop
  | [], [] => True
  | a :: m, b :: l => SamW a b ∧ SamL m l
  | _, _ => False
theorem SamL.len : ∀ {m l : List Wd}, SamL m l → m.length = l.length
  | [], [], _ => rfl
  | _ :: m, _ :: l, h => by rw [List.length_cons, List.length_cons, SamL.len h.2]
theorem SamL.at : ∀ {m l : List Wd} (_ : SamL m l) (i : Nat), i < l.length → SamW (m.getD i default) (l.getD i default)
  | [], [], _, i, hi => by cases hi
  | _ :: m, _ :: l, h, 0, _ => h.1
  | _ :: m, _ :: l, h, i + 1, hi => SamL.at h.2 i (by simpa using hi)
theorem relex {s : ByteArray} : ∀ (l : List Wd) (k : Nat), (∀ t ∈ l, Good t) → s.data.toList.drop k = l.flatMap spW → ∃ m, Ch s k m ∧ SamL m l
  | [], k, _, hd => by
    have hk : s.size ≤ k := by
      have := congrArg List.length hd
      rw [List.length_drop, size_list] at this
      simp at this
      omega
    refine ⟨[], ?_, trivial⟩
    unfold Ch
    rw [gap_out hk]
    omega
  | t :: r, k, hg, hd => by
    have hgt := hg t (List.mem_cons_self ..)
    have hpos := good_pos hgt
    obtain ⟨hb, h35⟩ := good_head hgt
    have hd2 : s.data.toList.drop k = t.text.data.toList ++ 32 :: r.flatMap spW := by
      rw [hd, List.flatMap_cons]
      unfold spW
      rw [List.append_assoc]
      rfl
    have htl : t.text.data.toList.length = t.text.size := size_list _
    have hk : k + t.text.size < s.size := by
      have := congrArg List.length hd2
      rw [List.length_drop, size_list, List.length_append, htl, List.length_cons] at this
      omega
    have hbk : byte s k = t.text.data.toList.headD 0 := by
      rw [← head_byte (by omega), hd2]
      match h : t.text.data.toList with
      | [] => rw [h] at htl; simp at htl; omega
      | c :: q => rfl
    have hga : gapAt s k = k := gap_at (by omega) (by rw [hbk]; exact hb) (by rw [hbk]; exact h35)
    obtain ⟨L, hL, hw, ht⟩ := hgt
    have hwd : wordL (s.data.toList.drop k) = (t.kind, t.text.size, t.num, 0) := by
      have h2 := word_again hL (by rw [hw]) (r.flatMap spW)
      rw [hd2, ht]
      rw [hw] at h2
      exact h2
    obtain ⟨w1, w2, w3, w4⟩ := word_list (s := s) (k := k) (by omega)
    rw [hwd] at w1 w2 w3 w4
    simp only at w1 w2 w3 w4
    have hdr : s.data.toList.drop (k + t.text.size + 1) = r.flatMap spW := by
      rw [show k + t.text.size + 1 = k + (t.text.size + 1) by omega, ← List.drop_drop, hd2, ← htl, List.drop_append, List.drop_eq_nil_of_le (by omega), List.nil_append]
      rw [show t.text.data.toList.length + 1 - t.text.data.toList.length = 1 by omega]
      rfl
    obtain ⟨m, hm, hf⟩ := relex r (k + t.text.size + 1) (fun x hx => hg x (List.mem_cons_of_mem _ hx)) hdr
    have h32 : byte s (k + t.text.size) = 32 := by
      rw [← head_byte hk, ← List.drop_drop, hd2, ← htl, List.drop_left]
      rfl
    have hgb : gapAt s (k + t.text.size + 1) = gapAt s (k + t.text.size) := gap_bl hk (by rw [h32]; decide)
    have hc := hm.gap hgb.symm
    refine ⟨tokW s k :: m, ?_, ⟨w1, ?_, w3⟩, hf⟩
    · unfold Ch
      rw [hga]
      exact ⟨by omega, w4, rfl, by rw [w2]; exact hc⟩
    · show s.extract k (wEnd s k) = t.text
      rw [w2]
      refine ByteArray.ext (Array.ext' ?_)
      rw [ext_take, hd2, ← htl, List.take_left]

def ltP (p q : Int × Int) : Prop := p.1 < q.1 ∨ (p.1 = q.1 ∧ p.2 < q.2)
theorem posAt_lt (s : ByteArray) (j : Nat) : ∀ d, ltP (posAt s j) (posAt s (j + d + 1)) := by
  have step : ∀ k, ltP (posAt s k) (posAt s (k + 1)) := fun k => by
    show ltP (posAt s k) (adv (posAt s k) (byte s k))
    unfold adv ltP
    split
    · exact .inl (by simp only []; omega)
    · exact .inr ⟨rfl, by simp only []; omega⟩
  intro d
  induction d with
  | zero => exact step j
  | succ d ih =>
    have h := step (j + d + 1)
    unfold ltP at ih h ⊢
    rw [show j + (d + 1) + 1 = j + d + 1 + 1 from rfl]
    omega
theorem posAt_ne {s : ByteArray} {j k : Nat} (h : j < k) : ¬ ((posAt s j).1 = (posAt s k).1 ∧ (posAt s j).2 = (posAt s k).2) := by
  have h2 := posAt_lt s j (k - j - 1)
  rw [show j + (k - j - 1) + 1 = k by omega] at h2
  unfold ltP at h2
  omega
end Go.Proofs.YtjmlmelcppbefaaGreatDoor

namespace Go.Proofs.YtjmlmelcppbefaaGreatDoor
open Go.RowKit

inductive Lx : List UInt8 → List Ky → Prop
  | nil {g : List UInt8} (hg : ∀ c ∈ g, isBl c = true) : Lx g []
  | cons {g w L : List UInt8} {u : Ky} {U : List Ky} (hg : ∀ c ∈ g, isBl c = true) (hw : w ≠ []) (hb : isBl (w.headD 0) = false) (h35 : ¬ (w.headD 0).toNat = 35)
      (hW : wordL (w ++ L) = (u.kind, w.length, u.num, 0)) (ht : u.text.data.toList = w) (h : Lx L U) : Lx (g ++ (w ++ L)) (u :: U)
theorem gap_blanks {s : ByteArray} : ∀ (g R : List UInt8) (k : Nat), s.data.toList.drop k = g ++ R → (∀ c ∈ g, isBl c = true) → gapAt s k = gapAt s (k + g.length)
  | [], _, _, _, _ => rfl
  | c :: g, R, k, hd, hg => by
    have hk : k < s.size := by
      have := congrArg List.length hd
      rw [List.length_drop, size_list] at this
      simp at this
      omega
    have hb : byte s k = c := by rw [← head_byte hk, hd]; rfl
    have hd2 : s.data.toList.drop (k + 1) = g ++ R := by rw [← List.drop_drop, hd]; rfl
    rw [← gap_bl hk (by rw [hb]; exact hg c (List.mem_cons_self ..)), gap_blanks g R (k + 1) hd2 fun x hx => hg x (List.mem_cons_of_mem _ hx), List.length_cons, show k + 1 + g.length = k + (g.length + 1) by omega]
theorem Lx.ch {s : ByteArray} {L : List UInt8} {U : List Ky} (h : Lx L U) : ∀ k, s.data.toList.drop k = L → ∃ m, Ch s k m ∧ m.map stp = U := by
  induction h with
  | @nil g hg =>
    intro k hd
    refine ⟨[], ?_, rfl⟩
    have hl : s.size - k = g.length := by
      have := congrArg List.length hd
      rwa [List.length_drop, size_list] at this
    unfold Ch
    rw [gap_blanks g [] k (by rw [hd, List.append_nil]) hg, gap_out (by omega)]
    omega
  | @cons g w L u U hg hw hb h35 hW ht _ ih =>
    intro k hd
    have hl : s.size - k = g.length + (w.length + L.length) := by
      have := congrArg List.length hd
      rwa [List.length_drop, size_list, List.length_append, List.length_append] at this
    have hpos : 0 < w.length := List.length_pos_iff.2 hw
    have hd1 : s.data.toList.drop (k + g.length) = w ++ L := by rw [← List.drop_drop, hd, List.drop_left]
    have hd2 : s.data.toList.drop (k + g.length + w.length) = L := by rw [← List.drop_drop, hd1, List.drop_left]
    obtain ⟨m, hm, hmu⟩ := ih _ hd2
    have hp : k + g.length < s.size := by omega
    have hby : byte s (k + g.length) = w.headD 0 := by
      rw [← head_byte hp, hd1]
      match w, hw with
      | _ :: _, _ => rfl
    have hga : gapAt s k = k + g.length := by rw [gap_blanks g _ k hd hg, gap_at hp (by rw [hby]; exact hb) (by rw [hby]; exact h35)]
    obtain ⟨w1, w2, w3, w4⟩ := word_list (s := s) (k := k + g.length) hp
    rw [hd1, hW] at w1 w2 w3 w4
    simp only at w1 w2 w3 w4
    refine ⟨tokW s (k + g.length) :: m, ?_, ?_⟩
    · unfold Ch
      rw [hga]
      exact ⟨hp, w4, rfl, by rw [w2]; exact hm⟩
    · rw [List.map_cons, hmu]
      congr 1
      have ht2 : s.extract (k + g.length) (k + g.length + w.length) = u.text := by
        refine ByteArray.ext (Array.ext' ?_)
        rw [ext_take, hd1, List.take_left, ht]
      show (⟨wKind s _, s.extract _ (wEnd s _), wNum s _⟩ : Ky) = u
      rw [w1, w2, w3, ht2]
theorem Lx.lexR {s : ByteArray} {U : List Ky} (h : Lx s.data.toList U) (hs : s.size ≤ 65536) : ∃ m, lexR s = (m, (0, 0), 0) ∧ m.map stp = U := by
  obtain ⟨m, hm, hu⟩ := h.ch (s := s) 0 rfl
  refine ⟨m, ?_, hu⟩
  unfold Go.Proofs.YtjmlmelcppbefaaGreatDoor.lexR
  rw [if_neg (by omega), hm.to_lex]
  rfl
theorem at_map {T : List Wd} {U : List Ky} (h : T.map stp = U) : AtT T 0 U := by
  subst h
  intro j hj
  rw [List.length_map] at hj
  rw [Nat.zero_add]
  refine ⟨hj, ?_⟩
  rw [List.getD_eq_getElem?_getD, List.getD_eq_getElem?_getD, List.getElem?_map, List.getElem?_eq_getElem hj]
  rfl
theorem Lx.bl {c : UInt8} {L : List UInt8} {U : List Ky} (hc : isBl c = true) (h : Lx L U) : Lx (c :: L) U := by
  have hall : ∀ {g : List UInt8}, (∀ x ∈ g, isBl x = true) → ∀ x ∈ c :: g, isBl x = true := fun hg x hx => by
    rcases List.mem_cons.1 hx with rfl | hx
    · exact hc
    · exact hg x hx
  cases h with
  | nil hg => exact .nil (hall hg)
  | cons hg hw hb h35 hW ht h => rw [← List.cons_append]; exact .cons (hall hg) hw hb h35 hW ht h
theorem Lx.wd {w L : List UInt8} {u : Ky} {U : List Ky} (h : Lx L U) (hw : w ≠ []) (hb : isBl (w.headD 0) = false ∧ ¬ (w.headD 0).toNat = 35) (hW : wordL (w ++ L) = (u.kind, w.length, u.num, 0)) (ht : u.text.data.toList = w) : Lx (w ++ L) (u :: U) :=
  .cons (g := []) (fun c hc => by cases hc) hw hb.1 hb.2 hW ht h
end Go.Proofs.YtjmlmelcppbefaaGreatDoor

namespace Go.Proofs.YtjmlmelcppbefaaGreatDoor
open Go.RowKit

def parB : Nat → List UInt8
  | 0 => [49]
  | k + 1 => 40 :: (parB k ++ [41])
def one : Ky := ⟨2, ⟨#[49]⟩, 1⟩
def parS : Nat → List Ky
  | 0 => [one]
  | k + 1 => tkS sOpen :: (parS k ++ [tkS sShut])
def kwIf : ByteArray := ⟨#[105, 102]⟩
def kwPrint : ByteArray := ⟨#[112, 114, 105, 110, 116]⟩
def kwThread : ByteArray := ⟨#[116, 104, 114, 101, 97, 100]⟩
def idT : ByteArray := ⟨#[116]⟩
def ifB : List UInt8 := [105, 102, 32, 49, 32, 123, 10]
def exB (m : Nat) : List UInt8 := List.replicate m 45 ++ parB 31
def exK (m : Nat) : List Ky := List.replicate m (tkS sMinus) ++ parS 31
def stB (m : Nat) : Nat → List UInt8
  | 0 => [112, 114, 105, 110, 116, 32] ++ (exB m ++ [59])
  | n + 1 => ifB ++ (stB m n ++ [125])
def stK (m : Nat) : Nat → List Ky
  | 0 => tkK kwPrint :: (exK m ++ [tkS sSemi])
  | n + 1 => tkK kwIf :: one :: tkS sBlO :: (stK m n ++ [tkS sBlS])
def deepB (m n : Nat) : List UInt8 := [116, 104, 114, 101, 97, 100, 32, 116, 32, 123, 10] ++ (stB m n ++ [125])
def deepK (m n : Nat) : List Ky := tkK kwThread :: tkN idT :: tkS sBlO :: (stK m n ++ [tkS sBlS])
section
variable {L : List UInt8} {U : List Ky}
theorem lx_shut (h : Lx L U) : Lx (41 :: L) (tkS sShut :: U) := h.wd (w := [41]) (by simp) (by decide) (by cases L <;> kernel_rfl) rfl
theorem lx_open (h : Lx L U) : Lx (40 :: L) (tkS sOpen :: U) := h.wd (w := [40]) (by simp) (by decide) (by cases L <;> kernel_rfl) rfl
theorem lx_semi (h : Lx L U) : Lx (59 :: L) (tkS sSemi :: U) := h.wd (w := [59]) (by simp) (by decide) (by cases L <;> kernel_rfl) rfl
theorem lx_blo (h : Lx L U) : Lx (123 :: L) (tkS sBlO :: U) := h.wd (w := [123]) (by simp) (by decide) (by cases L <;> kernel_rfl) rfl
theorem lx_bls (h : Lx L U) : Lx (125 :: L) (tkS sBlS :: U) := h.wd (w := [125]) (by simp) (by decide) (by cases L <;> kernel_rfl) rfl
theorem lx_minus (h : Lx L U) : Lx (45 :: L) (tkS sMinus :: U) := h.wd (w := [45]) (by simp) (by decide) (by cases L <;> kernel_rfl) rfl
end
theorem lx_par : ∀ (k : Nat) (L : List UInt8) (U : List Ky), wordL (49 :: L) = (2, 1, 1, 0) → Lx L U → Lx (parB k ++ L) (parS k ++ U)
  | 0, L, U, h49, h => h.wd (w := [49]) (u := one) (by simp) (by decide) h49 rfl
  | k + 1, L, U, _, h => by
    have h2 := lx_par k (41 :: L) (tkS sShut :: U) (by kernel_rfl) (lx_shut h)
    simp only [parB, parS, List.cons_append, List.append_assoc, List.nil_append]
    exact lx_open h2
theorem lx_signs : ∀ (m : Nat) (L : List UInt8) (U : List Ky), Lx L U → Lx (List.replicate m 45 ++ L) (List.replicate m (tkS sMinus) ++ U)
  | 0, _, _, h => h
  | m + 1, L, U, h => by
    rw [List.replicate_succ, List.replicate_succ, List.cons_append, List.cons_append]
    exact lx_minus (lx_signs m L U h)
theorem lx_st (m : Nat) : ∀ (n : Nat) (L : List UInt8) (U : List Ky), Lx L U → Lx (stB m n ++ L) (stK m n ++ U)
  | 0, L, U, h => by
    have h1 := lx_signs m _ _ (lx_par 31 (59 :: L) (tkS sSemi :: U) (by kernel_rfl) (lx_semi h))
    have h2 := (h1.bl (c := 32) (by decide)).wd (w := [112, 114, 105, 110, 116]) (u := tkK kwPrint) (by simp) (by decide) (by kernel_rfl) rfl
    simp only [stB, stK, exB, exK, List.cons_append, List.append_assoc, List.nil_append] at h2 ⊢
    exact h2
  | n + 1, L, U, h => by
    have h1 := (lx_st m n (125 :: L) (tkS sBlS :: U) (lx_bls h)).bl (c := 10) (by decide)
    have h2 := ((lx_blo h1).bl (c := 32) (by decide)).wd (w := [49]) (u := one) (by simp) (by decide) (by kernel_rfl) rfl
    have h3 := (h2.bl (c := 32) (by decide)).wd (w := [105, 102]) (u := tkK kwIf) (by simp) (by decide) (by kernel_rfl) rfl
    simp only [stB, stK, ifB, List.cons_append, List.append_assoc, List.nil_append] at h3 ⊢
    exact h3
theorem lx_deep (m n : Nat) : Lx (deepB m n) (deepK m n) := by
  have h0 : Lx [] [] := .nil fun c hc => by cases hc
  have h1 := (lx_st m n [125] [tkS sBlS] (lx_bls h0)).bl (c := 10) (by decide)
  have h2 := ((lx_blo h1).bl (c := 32) (by decide)).wd (w := [116]) (u := tkN idT) (by simp) (by decide) (by kernel_rfl) rfl
  have h3 := (h2.bl (c := 32) (by decide)).wd (w := [116, 104, 114, 101, 97, 100]) (u := tkK kwThread) (by simp) (by decide) (by kernel_rfl) rfl
  simp only [deepB, deepK, List.cons_append, List.nil_append] at h3 ⊢
  exact h3
theorem parS_len : ∀ k, (parS k).length = 2 * k + 1
  | 0 => rfl
  | k + 1 => by simp only [parS, List.length_cons, List.length_append, parS_len k, List.length_nil]; omega
theorem parB_len : ∀ k, (parB k).length = 2 * k + 1
  | 0 => rfl
  | k + 1 => by simp only [parB, List.length_cons, List.length_append, parB_len k, List.length_nil]; omega
theorem stB_len (m : Nat) : ∀ n, (stB m n).length = 8 * n + (m + 70)
  | 0 => by simp only [stB, exB, List.length_cons, List.length_append, List.length_replicate, parB_len, List.length_nil]; omega
  | n + 1 => by simp only [stB, ifB, List.length_cons, List.length_append, stB_len m n, List.length_nil]; omega

variable {T : List Wd}
def negs : Nat → Ex
  | 0 => exNum 1
  | m + 1 => exNeg (negs m)
theorem negs_depth : ∀ m, (negs m).depth = m + 1
  | 0 => rfl
  | m + 1 => by
    show Nat.max (negs m).depth 0 + 1 = m + 1 + 1
    rw [negs_depth m]
    simp
theorem u_one {i : Nat} (hA : AtT T i [one]) : xU T i = some (.ok (exNum 1, i + 1)) := by
  obtain ⟨h1, h2, _⟩ := hA.cons
  have e1 : isT T i sMinus = false := by rw [isT_of h1 h2]; rfl
  have e2 : isT T i sNot = false := by rw [isT_of h1 h2]; rfl
  have e3 : isT T i sOpen = false := by rw [isT_of h1 h2]; rfl
  have e4 : kindAt T i = 2 := by rw [kind_of h1 h2]; rfl
  rw [xU_eq T (by omega), e1, e2, if_neg (by decide), if_neg (by decide), xP_eq T (by omega), e3, if_neg (by decide), if_pos e4, num_of h2]
  rfl
theorem u_par : ∀ (k i : Nat), AtT T i (parS k) → xU T i = some (.ok (exNum 1, i + (2 * k + 1)))
  | 0, i, hA => u_one hA
  | k + 1, i, hA => by
    have hA' : AtT T i (tkS sOpen :: (parS k ++ [tkS sShut])) := hA
    obtain ⟨h1, h2, h3⟩ := hA'.cons
    have h4 := h3.left
    obtain ⟨h5, h6, _⟩ := h3.right.cons
    rw [parS_len] at h5 h6
    have e1 : isT T i sMinus = false := by rw [isT_of h1 h2]; decide +kernel
    have e2 : isT T i sNot = false := by rw [isT_of h1 h2]; decide +kernel
    have e3 : isT T i sOpen = true := by rw [isT_of h1 h2]; decide +kernel
    have e4 : opAt T (i + 1 + (2 * k + 1)) = 0 := by rw [opAt_of h5 h6]; decide +kernel
    have e5 : isT T (i + 1 + (2 * k + 1)) sShut = true := by rw [isT_of h5 h6]; decide +kernel
    rw [xU_eq T (by omega), e1, e2, if_neg (by decide), if_neg (by decide), xP_eq T (by omega), e3, if_pos rfl, xE_eq T (by omega), u_par k (i + 1) h4, andT_ok, xL_stop (by omega) (.inl e4), andT_ok, want, e5, if_pos rfl, andT_ok]
    rw [show i + 1 + (2 * k + 1) + 1 = i + (2 * (k + 1) + 1) by omega]
theorem u_signs : ∀ (m i : Nat), AtT T i (exK m) → xU T i = some (.ok (negs m, i + (m + 63)))
  | 0, i, hA => by rw [u_par 31 i hA]; simp [negs]
  | m + 1, i, hA => by
    have hA' : AtT T i (tkS sMinus :: exK m) := hA
    obtain ⟨h1, h2, h3⟩ := hA'.cons
    have e1 : isT T i sMinus = true := by rw [isT_of h1 h2]; decide +kernel
    rw [xU_eq T (by omega), e1, if_pos rfl, u_signs m (i + 1) h3, andT_ok, negs, show i + 1 + (m + 63) = i + (m + 1 + 63) by omega]
theorem exK_len (m : Nat) : (exK m).length = m + 63 := by simp [exK, parS_len]
def IsN (m : Nat) : Nat → St → Prop
  | 0, s => ∃ p, s = mkSt 15 p noB noB (negs m) zEx [] []
  | n + 1, s => ∃ p t, IsN m n t ∧ s = mkSt 4 p noB noB (exNum 1) zEx [t] []
def stLen (m : Nat) : Nat → Nat
  | 0 => m + 65
  | n + 1 => stLen m n + 4
theorem stK_len (m : Nat) : ∀ n, (stK m n).length = stLen m n
  | 0 => by simp only [stK, stLen, List.length_cons, List.length_append, exK_len, List.length_nil]
  | n + 1 => by simp only [stK, stLen, List.length_cons, List.length_append, stK_len m n, List.length_nil]
theorem stK_head (m n : Nat) : ∃ u V, stK m n = u :: V ∧ u.kind = 3 ∧ decide (u.text = sBlS) = false := by
  cases n with
  | zero => exact ⟨_, _, rfl, rfl, by decide +kernel⟩
  | succ n => exact ⟨_, _, rfl, rfl, by decide +kernel⟩
theorem pX_one {i : Nat} (hA : AtT T i [one]) (ho : opAt T (i + 1) = 0) (hi : i + 1 ≤ T.length) : pX T i = some (.ok (exNum 1, i + 1)) := by
  show xE T 1 i = _
  rw [xE_eq T (by omega), u_one hA, andT_ok, xL_stop hi (.inl ho)]
theorem s_nest (m : Nat) : ∀ (n i : Nat), AtT T i (stK m n ++ [tkS sBlS]) → ∃ s, xS T i = some (.ok (s, i + stLen m n)) ∧ IsN m n s
  | 0, i, hA => by
    have hA' : AtT T i (tkK kwPrint :: (exK m ++ [tkS sSemi])) := hA.left
    obtain ⟨h1, h2, h3⟩ := hA'.cons
    have h4 := h3.left
    obtain ⟨h5, h6, _⟩ := h3.right.cons
    rw [exK_len] at h5 h6
    have e1 : kindAt T i = 3 := by rw [kind_of h1 h2]; rfl
    have e2 : stOf (T.getD i default).text = 15 := by rw [text_of h2]; decide +kernel
    have e3 : opAt T (i + 1 + (m + 63)) = 0 := by rw [opAt_of h5 h6]; decide +kernel
    have e4 : isT T (i + 1 + (m + 63)) sSemi = true := by rw [isT_of h5 h6]; decide +kernel
    have ex : pX T (i + 1) = some (.ok (negs m, i + 1 + (m + 63))) := by
      show xE T 1 (i + 1) = _
      rw [xE_eq T (by omega), u_signs m (i + 1) h4, andT_ok, xL_stop (by omega) (.inl e3)]
    refine ⟨mkSt 15 (plOf T i) noB noB (negs m) zEx [] [], ?_, _, rfl⟩
    rw [xS_eq T (by omega), if_neg (by rw [e1]; decide), if_neg (by rw [e1, e2]; decide), if_neg (by rw [e2]; decide), if_neg (by rw [e2]; decide), e2, pPlain, if_neg (by decide), if_pos rfl, ex, andT_ok, want, e4, if_pos rfl, andT_ok]
    rw [show i + 1 + (m + 63) + 1 = i + stLen m 0 by simp only [stLen]; omega]
  | n + 1, i, hA => by
    have hA' : AtT T i (tkK kwIf :: one :: tkS sBlO :: ((stK m n ++ [tkS sBlS]) ++ [tkS sBlS])) := by simpa only [stK, List.cons_append] using hA
    obtain ⟨h1, h2, h3⟩ := hA'.cons
    have hone : AtT T (i + 1) [one] := AtT.left (U := [one]) h3
    obtain ⟨h4, h5, h6⟩ := h3.cons
    obtain ⟨h7, h8, h9⟩ := h6.cons
    have h10 := h9.left
    have h11 : AtT T (i + 1 + 1 + 1 + stLen m n) [tkS sBlS] := by have := h10.right; rwa [stK_len] at this
    have h12 : AtT T (i + 1 + 1 + 1 + (stLen m n + 1)) [tkS sBlS] := by
      have := h9.right
      rwa [List.length_append, stK_len, List.length_singleton] at this
    obtain ⟨h13, h14, _⟩ := h11.cons
    obtain ⟨h15, h16, _⟩ := h12.cons
    obtain ⟨u, V, hu, hu3, hut⟩ := stK_head m n
    have h17 : AtT T (i + 1 + 1 + 1) (u :: (V ++ [tkS sBlS])) := by rw [← List.cons_append, ← hu]; exact h10
    obtain ⟨h18, h19, _⟩ := h17.cons
    have e1 : kindAt T i = 3 := by rw [kind_of h1 h2]; rfl
    have e2 : stOf (T.getD i default).text = 4 := by rw [text_of h2]; decide +kernel
    have e3 : opAt T (i + 1 + 1) = 0 := by rw [opAt_of h7 h8]; decide +kernel
    have e4 : isT T (i + 1 + 1) sBlO = true := by rw [isT_of h7 h8]; decide +kernel
    have e5 : isT T (i + 1 + 1 + 1) sBlS = false := by rw [isT_of h18 h19, hut, Bool.and_false]
    have e6 : isT T (i + 1 + 1 + 1 + stLen m n) sBlS = true := by rw [isT_of h13 h14]; decide +kernel
    have e7 : isT T (i + 1 + 1 + 1 + (stLen m n + 1)) wElse = false := by rw [isT_of h15 h16]; decide +kernel
    obtain ⟨s, hs, hN⟩ := s_nest m n _ h10
    refine ⟨mkSt 4 (plOf T i) noB noB (exNum 1) zEx [s] [], ?_, _, s, hN, rfl⟩
    rw [xS_eq T (by omega), if_neg (by rw [e1]; decide), if_neg (by rw [e1, e2]; decide), if_neg (by rw [e2]; decide), if_pos e2, pX_one hone e3 (by omega), andT_ok,
      xB_eq T (by omega), want, e4, if_pos rfl, andT_ok, xSs_eq T (by omega), e5, if_neg (by decide), hs, andT_ok, xSs_eq T (by omega), e6, if_pos rfl, andT_ok,
      show i + 1 + 1 + 1 + stLen m n + 1 = i + 1 + 1 + 1 + (stLen m n + 1) by omega, e7, if_neg (by decide)]
    rw [show i + 1 + 1 + 1 + (stLen m n + 1) = i + stLen m (n + 1) by simp only [stLen]; omega]
    rfl
theorem n_deep (m : Nat) : ∀ (n : Nat) (s : St) (d : Nat), IsN m n s → ((s.deep d = none) ↔ (d + n ≤ 24 ∧ m + 1 ≤ 24))
  | 0, s, d, ⟨p, h⟩ => by
    subst h
    have hz : zEx.depth = 1 := by rfl
    simp only [mkSt, St.deep, negs_depth, hz, St.deeps]
    split
    · rename_i hc
      simp only [reduceCtorEq, false_iff]
      omega
    · rename_i hc
      simp only [true_iff]
      omega
  | n + 1, s, d, ⟨p, t, ht, h⟩ => by
    subst h
    have ih := n_deep m n t (d + 1) ht
    have hz : zEx.depth = 1 := by rfl
    have ho : (exNum 1).depth = 1 := by rfl
    simp only [mkSt, St.deep, hz, ho, St.deeps]
    split
    · rename_i hc
      simp only [reduceCtorEq, false_iff]
      omega
    · rename_i hc
      cases hd : t.deep (d + 1) with
      | some q =>
        rw [hd] at ih
        simp only [reduceCtorEq, false_iff] at ih ⊢
        omega
      | none =>
        rw [hd] at ih
        simp only [true_iff] at ih ⊢
        omega
theorem deep_read {s : ByteArray} {m n : Nat} (hs : s.data.toList = deepB m n) (hz : s.size ≤ 65536) : (parseR s).2.2 = 0 ↔ (m ≤ 23 ∧ n ≤ 23) := by
  obtain ⟨T, hT, hm⟩ := (Lx.lexR (s := s) (by rw [hs]; exact lx_deep m n) hz)
  have hA := at_map hm
  have hlen : T.length = stLen m n + 4 := by
    have := congrArg List.length hm
    rw [List.length_map] at this
    rw [this]
    simp only [deepK, List.length_cons, List.length_append, stK_len, List.length_nil]
  obtain ⟨h1, h2, h3⟩ := AtT.cons (u := tkK kwThread) hA
  obtain ⟨h4, h5, h6⟩ := h3.cons
  obtain ⟨h7, h8, h9⟩ := h6.cons
  have h11 : AtT T (0 + 1 + 1 + 1 + stLen m n) [tkS sBlS] := by have := h9.right; rwa [stK_len] at this
  obtain ⟨h13, h14, _⟩ := h11.cons
  obtain ⟨u, V, hu, hu3, hut⟩ := stK_head m n
  have h17 : AtT T (0 + 1 + 1 + 1) (u :: (V ++ [tkS sBlS])) := by rw [← List.cons_append, ← hu]; exact h9
  obtain ⟨h18, h19, _⟩ := h17.cons
  obtain ⟨x, hx, hN⟩ := s_nest m n _ h9
  have e1 : deAt T 0 = 6 := by
    unfold deAt
    rw [show (fun k => decide (k ≠ 0) && isT T 0 (deW.getD k noB)) = fun k => decide (k ≠ 0) && ((decide ((3 : Int) = 3) || decide ((3 : Int) = 4)) && decide (kwThread = deW.getD k noB)) from funext fun k => by rw [isT_of h1 h2]; rfl]
    decide +kernel
  have e2 : kindAt T (0 + 1) = 1 := by rw [kind_of h4 h5]; rfl
  have e4 : isT T (0 + 1 + 1) sBlO = true := by rw [isT_of h7 h8]; decide +kernel
  have e5 : isT T (0 + 1 + 1 + 1) sBlS = false := by rw [isT_of h18 h19, hut, Bool.and_false]
  have e6 : isT T (0 + 1 + 1 + 1 + stLen m n) sBlS = true := by rw [isT_of h13 h14]; decide +kernel
  have hB : pBlk T (0 + 1 + 1) = some (.ok ([x], T.length)) := by
    show xB T (0 + 1 + 1) = _
    rw [xB_eq T (by omega), want, e4, if_pos rfl, andT_ok, xSs_eq T (by omega), e5, if_neg (by decide), hx, andT_ok, xSs_eq T (by omega), e6, if_pos rfl, show 0 + 1 + 1 + 1 + stLen m n + 1 = T.length by omega]
    rfl
  have hD : pD T 0 = some (.ok (mkDe 6 (plOf T 0) (T.getD (0 + 1) default).text 0 [x], T.length)) := by
    rw [pD, e1, if_neg (by decide), pName, if_pos e2, andT_ok, if_neg (by decide), if_neg (by decide), if_pos rfl, hB, andT_ok]
  have hDs : pDs T (T.length + 1) [] 0 = some (.ok ([mkDe 6 (plOf T 0) (T.getD (0 + 1) default).text 0 [x]], T.length)) := by
    rw [pDs, if_pos (by omega), hD, andT_ok]
    obtain ⟨q, hq⟩ : ∃ q, T.length = q + 1 := ⟨T.length - 1, by omega⟩
    rw [show ∀ acc i, pDs T T.length acc i = pDs T (q + 1) acc i from fun _ _ => by rw [hq], pDs, if_neg (by omega)]
    rfl
  have hn := n_deep m n x 1 hN
  unfold parseR
  rw [hT]
  simp only [if_true]
  rw [hDs]
  simp only [deDeep, mkDe, St.deeps]
  cases hd : x.deep 1 with
  | some q =>
    rw [hd] at hn
    simp only [reduceCtorEq, false_iff] at hn
    simp only []
    omega
  | none =>
    rw [hd] at hn
    simp only [true_iff] at hn
    simp only [true_iff]
    omega
end Go.Proofs.YtjmlmelcppbefaaGreatDoor
