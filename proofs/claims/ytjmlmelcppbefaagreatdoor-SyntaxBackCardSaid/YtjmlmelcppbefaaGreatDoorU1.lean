/- U1: texts of one kind, one behind the other. No condition but what each law says. -/
import Derived.Test.YtjmlmelcppbefaaGreatDoorT10
import Derived.Test.YtjmlmelcppbefaaGreatDoorT18
import Derived.Test.YtjmlmelcppbefaaGreatDoorT20
import Derived.Test.YtjmlmelcppbefaaGreatDoorT30
namespace Go.Proofs.YtjmlmelcppbefaaGreatDoor
section
variable (T : List Wd)
def xE (n i : Nat) : PR Ex := pE T (4 * T.length + 4) n i
def xL (n m : Nat) (l : Ex) (i : Nat) : PR Ex := pL T (4 * T.length + 4) n m l i
def xU (i : Nat) : PR Ex := pU T (4 * T.length + 4) i
def xP (i : Nat) : PR Ex := pP T (4 * T.length + 4) i
theorem pE_x {f n i : Nat} (hi : i ≤ T.length) (hf : f + 1 = 4 * T.length + 4) (hb : 4 * (T.length - i) + 3 ≤ f) : pE T f n i = xE T n i := by
  obtain ⟨R, hR, _⟩ := (pTotal T f).1 n i hi hb
  rw [hR, xE, ← hf, (pMono T f).1 _ _ _ hR]
theorem pL_x {f n m i : Nat} {l : Ex} (hi : i ≤ T.length) (hf : f + 1 = 4 * T.length + 4) (hb : 4 * (T.length - i) + 1 ≤ f) : pL T f n m l i = xL T n m l i := by
  obtain ⟨R, hR, _⟩ := (pTotal T f).2.1 n m l i hi hb
  rw [hR, xL, ← hf, (pMono T f).2.1 _ _ _ _ _ hR]
theorem pU_x {f i : Nat} (hi : i ≤ T.length) (hf : f + 1 = 4 * T.length + 4) (hb : 4 * (T.length - i) + 2 ≤ f) : pU T f i = xU T i := by
  obtain ⟨R, hR, _⟩ := (pTotal T f).2.2.1 i hi hb
  rw [hR, xU, ← hf, (pMono T f).2.2.1 _ _ hR]
theorem pP_x {f i : Nat} (hi : i ≤ T.length) (hf : f + 1 = 4 * T.length + 4) (hb : 4 * (T.length - i) + 1 ≤ f) : pP T f i = xP T i := by
  obtain ⟨R, hR, _⟩ := (pTotal T f).2.2.2 i hi hb
  rw [hR, xP, ← hf, (pMono T f).2.2.2 _ _ hR]
theorem xU_adv {i j : Nat} {x : Ex} (hi : i ≤ T.length) (h : xU T i = some (.ok (x, j))) : i < j ∧ j ≤ T.length := by
  obtain ⟨R, hR, hA⟩ := (pTotal T (4 * T.length + 4)).2.2.1 i hi (by omega)
  rw [xU, hR] at h
  exact hA x j (Option.some.inj h)
theorem xE_adv {n i j : Nat} {x : Ex} (hi : i ≤ T.length) (h : xE T n i = some (.ok (x, j))) : i < j ∧ j ≤ T.length := by
  obtain ⟨R, hR, hA⟩ := (pTotal T (4 * T.length + 4)).1 n i hi (by omega)
  rw [xE, hR] at h
  exact hA x j (Option.some.inj h)
theorem andT_congr {α β : Type} {x : PR α} {k k' : α → Nat → PR β} (h : ∀ a j, x = some (.ok (a, j)) → k a j = k' a j) : andT x k = andT x k' := by
  rcases x with _ | (j | ⟨a, j⟩)
  · rfl
  · rfl
  · exact h a j rfl
theorem xE_eq {n i : Nat} (hi : i ≤ T.length) : xE T n i = andT (xU T i) fun l j => xL T n 6 l j := by
  rw [xE, show 4 * T.length + 4 = (4 * T.length + 3) + 1 from rfl, pE, pU_x T hi rfl (by omega)]
  exact andT_congr fun a j h => pL_x T (xU_adv T hi h).2 rfl (by omega)
theorem xL_eq {n m i : Nat} {l : Ex} (_hi : i ≤ T.length) : xL T n m l i = if opAt T i = 0 ∨ rankOf (opAt T i) < n ∨ m < rankOf (opAt T i) then some (.ok (l, i))
    else andT (xE T (rankOf (opAt T i) + 1) (i + 1)) fun x j => xL T n (nextM (rankOf (opAt T i))) (exBin (opAt T i) l x) j := by
  rw [xL, show 4 * T.length + 4 = (4 * T.length + 3) + 1 from rfl, pL]
  split
  · rfl
  · rename_i hc
    have hlt := opAt_lt T (fun e => hc (.inl e))
    rw [pE_x T (by omega) rfl (by omega)]
    exact andT_congr fun a j h => pL_x T (xE_adv T (by omega) h).2 rfl (by omega)
theorem xU_eq {i : Nat} (hi : i ≤ T.length) : xU T i = if isT T i sMinus = true then andT (xU T (i + 1)) fun x j => some (.ok (exNeg x, j))
    else if isT T i sNot = true then andT (xU T (i + 1)) fun x j => some (.ok (exNot x, j)) else xP T i := by
  rw [xU, show 4 * T.length + 4 = (4 * T.length + 3) + 1 from rfl, pU]
  split
  · rename_i hc
    have := isT_lt T hc
    rw [pU_x T (by omega) rfl (by omega)]
  split
  · rename_i hc
    have := isT_lt T hc
    rw [pU_x T (by omega) rfl (by omega)]
  · exact pP_x T hi rfl (by omega)
theorem xP_eq {i : Nat} (_hi : i ≤ T.length) : xP T i = if isT T i sOpen = true then andT (xE T 1 (i + 1)) fun x j => andT (want T sShut j) fun _ k => some (.ok (x, k))
    else if kindAt T i = 2 then some (.ok (exNum (T.getD i default).num, i + 1))
    else andT (pName T i) fun s j => if isT T j sBrO = true then andT (xE T 1 (j + 1)) fun x k => andT (want T sBrS k) fun _ m => some (.ok (exCell s x, m)) else some (.ok (exName s, j)) := by
  rw [xP, show 4 * T.length + 4 = (4 * T.length + 3) + 1 from rfl, pP]
  split
  · rename_i hc
    have := isT_lt T hc
    rw [pE_x T (by omega) rfl (by omega)]
  split
  · rfl
  · refine andT_congr fun s j h => ?_
    obtain ⟨rfl, h2⟩ := pName_ok T h
    split
    · rename_i hc
      have := isT_lt T hc
      rw [pE_x T (by omega) rfl (by omega)]
    · rfl
end
end Go.Proofs.YtjmlmelcppbefaaGreatDoor
namespace Go.Proofs.YtjmlmelcppbefaaGreatDoor
structure Ky where
  kind : Int
  text : ByteArray
  num : Int
instance : Inhabited Ky := ⟨⟨0, noB, 0⟩⟩
def stp (t : Wd) : Ky := ⟨t.kind, t.text, t.num⟩
def tkS (s : ByteArray) : Ky := ⟨4, s, 0⟩
def tkK (s : ByteArray) : Ky := ⟨3, s, 0⟩
def tkN (s : ByteArray) : Ky := ⟨1, s, 0⟩
def tkI (n : Int) : Ky := ⟨2, bS (Lib.itoa n), n⟩
def AtT (T : List Wd) (i : Nat) (U : List Ky) : Prop := ∀ j, j < U.length → i + j < T.length ∧ stp (T.getD (i + j) default) = U.getD j default
theorem AtT.nil {T : List Wd} {i : Nat} : AtT T i [] := fun j hj => by cases hj
theorem AtT.cons {T : List Wd} {i : Nat} {u : Ky} {V : List Ky} (h : AtT T i (u :: V)) : i < T.length ∧ stp (T.getD i default) = u ∧ AtT T (i + 1) V :=
  ⟨(h 0 (by simp)).1, (h 0 (by simp)).2, fun j hj => by
    have := h (j + 1) (by simpa using hj)
    rw [show i + (j + 1) = i + 1 + j by omega] at this
    simpa using this⟩
theorem AtT.left {T : List Wd} {i : Nat} {U V : List Ky} (h : AtT T i (U ++ V)) : AtT T i U := fun j hj => by
  have := h j (by rw [List.length_append]; omega)
  rw [List.getD_eq_getElem?_getD, List.getD_eq_getElem?_getD, List.getElem?_append_left hj] at this
  rwa [List.getD_eq_getElem?_getD, List.getD_eq_getElem?_getD]
theorem AtT.right {T : List Wd} {i : Nat} {U V : List Ky} (h : AtT T i (U ++ V)) : AtT T (i + U.length) V := fun j hj => by
  have := h (U.length + j) (by rw [List.length_append]; omega)
  rw [List.getD_eq_getElem?_getD, List.getD_eq_getElem?_getD, List.getElem?_append_right (by omega), show U.length + j - U.length = j by omega, ← Nat.add_assoc] at this
  rwa [List.getD_eq_getElem?_getD, List.getD_eq_getElem?_getD]
theorem AtT.len {T : List Wd} {i : Nat} {U : List Ky} (h : AtT T i U) (hi : i ≤ T.length) : i + U.length ≤ T.length := by
  rcases Nat.eq_zero_or_pos U.length with h0 | h0
  · omega
  · have := (h (U.length - 1) (by omega)).1
    omega
section
variable {T : List Wd} {i : Nat} {u : Ky}
theorem kind_of (hi : i < T.length) (h : stp (T.getD i default) = u) : kindAt T i = u.kind := by
  rw [← h, kindAt, if_pos hi]
  rfl
theorem text_of (h : stp (T.getD i default) = u) : (T.getD i default).text = u.text := by rw [← h]; rfl
theorem num_of (h : stp (T.getD i default) = u) : (T.getD i default).num = u.num := by rw [← h]; rfl
theorem isT_of (hi : i < T.length) (h : stp (T.getD i default) = u) (s : ByteArray) : isT T i s = ((decide (u.kind = 3) || decide (u.kind = 4)) && decide (u.text = s)) := by
  rw [isT, ← h, decide_eq_true hi, Bool.true_and]
  rfl
theorem opAt_of (hi : i < T.length) (h : stp (T.getD i default) = u) : opAt T i = if u.kind = 4 then opOf u.text else 0 := by
  rw [opAt, kind_of hi h, text_of h]
end
mutual
def exC : Ex → Ex
  | .mk k n s _ _ o args => .mk k n s 0 false o (exCs args)
def exCs : List Ex → List Ex
  | [] => []
  | x :: r => exC x :: exCs r
end
def parK (b n : Nat) (t : List Ky) : List Ky := if b < n then tkS sOpen :: (t ++ [tkS sShut]) else t
def tkE : Ex → List Ky
  | .mk k n s _ _ _ [] => if k = 1 then [tkI n] else [tkN s]
  | .mk k _ s _ _ _ [x] => if k = 3 then tkN s :: tkS sBrO :: (tkE x ++ [tkS sBrS]) else tkS (if k = 4 then sMinus else sNot) :: parK x.bind 6 (tkE x)
  | .mk _ _ _ _ _ o [x, y] => parK x.bind (if rankOf o.toNat = 3 then 4 else rankOf o.toNat) (tkE x) ++ (tkS (opS.getD o.toNat noB) :: parK y.bind (rankOf o.toNat + 1) (tkE y))
  | _ => []
def Mx (b : Nat) : Nat := if 6 ≤ b then 6 else nextM b
structure PE (T : List Wd) (e : Ex) : Prop where
  ex : ∀ n i, 1 ≤ n → n ≤ e.bind → i ≤ T.length → AtT T i (tkE e) → isT T (i + (tkE e).length) sBrO = false → (opAt T (i + (tkE e).length) = 0 ∨ 6 ≤ e.bind ∨ rankOf (opAt T (i + (tkE e).length)) ≤ e.bind) → xE T n i = xL T n (Mx e.bind) (exC e) (i + (tkE e).length)
  un : ∀ i, 6 ≤ e.bind → i ≤ T.length → AtT T i (tkE e) → isT T (i + (tkE e).length) sBrO = false → xU T i = some (.ok (exC e, i + (tkE e).length))
theorem PE.of_un {T : List Wd} {e : Ex} (h6 : 6 ≤ e.bind) (h : ∀ i, i ≤ T.length → AtT T i (tkE e) → isT T (i + (tkE e).length) sBrO = false → xU T i = some (.ok (exC e, i + (tkE e).length))) : PE T e := by
  refine ⟨fun n i _ _ hi hA hb _ => ?_, fun i _ hi hA hb => h i hi hA hb⟩
  rw [xE_eq T hi, h i hi hA hb, andT_ok, Mx, if_pos h6]
theorem xL_stop {T : List Wd} {n m j : Nat} {l : Ex} (hj : j ≤ T.length) (h : opAt T j = 0 ∨ rankOf (opAt T j) < n) : xL T n m l j = some (.ok (l, j)) := by
  rw [xL_eq T hj, if_pos (by omega)]
theorem paren {T : List Wd} {e : Ex} (h : PE T e) (hb : 1 ≤ e.bind) {i : Nat} (hi : i ≤ T.length) (hA : AtT T i (tkS sOpen :: (tkE e ++ [tkS sShut]))) : xU T i = some (.ok (exC e, i + ((tkE e).length + 2))) := by
  obtain ⟨h1, h2, h3⟩ := hA.cons
  have h4 := h3.left
  obtain ⟨h5, h6, _⟩ := h3.right.cons
  have e1 : isT T i sMinus = false := by rw [isT_of h1 h2]; decide +kernel
  have e2 : isT T i sNot = false := by rw [isT_of h1 h2]; decide +kernel
  have e3 : isT T i sOpen = true := by rw [isT_of h1 h2]; decide +kernel
  have e4 : opAt T (i + 1 + (tkE e).length) = 0 := by rw [opAt_of h5 h6]; decide +kernel
  have e5 : isT T (i + 1 + (tkE e).length) sShut = true := by rw [isT_of h5 h6]; decide +kernel
  have e6 : isT T (i + 1 + (tkE e).length) sBrO = false := by rw [isT_of h5 h6]; decide +kernel
  rw [xU_eq T hi, e1, e2, if_neg (by decide), if_neg (by decide), xP_eq T hi, e3, if_pos rfl, h.ex 1 (i + 1) (Nat.le_refl _) hb (by omega) h4 e6 (.inl e4), xL_stop (by omega) (.inl e4), andT_ok, want, e5, if_pos rfl, andT_ok]
  rw [show i + 1 + (tkE e).length + 1 = i + ((tkE e).length + 2) by omega]
theorem bind_pos (nm : ByteArray → Bool) : ∀ (e : Ex) (d : Nat), exR nm e d = true → 1 ≤ e.bind := by
  intro e d h
  obtain ⟨k, n, s, sl, lo, o, args⟩ := e
  simp only [Ex.bind]
  split
  · rename_i hk
    match args with
    | [] => simp [exR, hk] at h
    | [x] => simp [exR, hk] at h
    | [x, y] =>
      simp only [exR, Bool.and_eq_true, decide_eq_true_eq] at h
      have h1 := h.2.2.2.2.1.2
      have h3 : ∀ j : Fin 12, 1 ≤ j.val → 1 ≤ rankOf j.val := by decide
      have h4 : o.toNat < 12 ∧ 1 ≤ o.toNat := by omega
      exact h3 ⟨o.toNat, h4.1⟩ h4.2
    | _ :: _ :: _ :: _ => simp [exR] at h
  · split <;> omega
theorem op_text : ∀ j : Fin 12, 1 ≤ j.val → opOf (opS.getD j.val noB) = j.val := by decide +kernel
theorem op_nbr : ∀ j : Fin 12, decide (opS.getD j.val noB = sBrO) = false := by decide +kernel
theorem rank_le : ∀ j : Fin 12, rankOf j.val ≤ 5 := by decide
theorem rank_pos : ∀ j : Fin 12, 1 ≤ j.val → 1 ≤ rankOf j.val := by decide
theorem parse_ex (T : List Wd) (nm : ByteArray → Bool) : ∀ (e : Ex) (d : Nat), exR nm e d = true → PE T e
  | .mk k n s sl lo o [], d, h => by
    simp only [exR, Bool.and_eq_true, Bool.or_eq_true, decide_eq_true_eq] at h
    obtain ⟨-, hn, ho, hs, hk⟩ := h
    rcases hk with ⟨rfl, hn1⟩ | rfl
    · rw [if_neg (by decide)] at hs
      simp only [decide_eq_true_eq] at hs
      have ho' : o = 0 := ho.resolve_left (by decide)
      subst hs ho'
      refine PE.of_un (by simp [Ex.bind]) fun i hi hA hbr => ?_
      have hA' : AtT T i [tkI n] := by simpa [tkE] using hA
      obtain ⟨h1, h2, _⟩ := hA'.cons
      have e1 : isT T i sMinus = false := by rw [isT_of h1 h2]; rfl
      have e2 : isT T i sNot = false := by rw [isT_of h1 h2]; rfl
      have e3 : isT T i sOpen = false := by rw [isT_of h1 h2]; rfl
      have e4 : kindAt T i = 2 := by rw [kind_of h1 h2]; rfl
      rw [xU_eq T hi, e1, e2, if_neg (by decide), if_neg (by decide), xP_eq T hi, e3, if_neg (by decide), if_pos e4, num_of h2]
      simp [tkE, exC, exCs, exNum, tkI]
    · have hn' : n = 0 := hn.resolve_left (by decide)
      have ho' : o = 0 := ho.resolve_left (by decide)
      subst hn' ho'
      refine PE.of_un (by simp [Ex.bind]) fun i hi hA hbr => ?_
      have hA' : AtT T i [tkN s] := by simpa [tkE] using hA
      obtain ⟨h1, h2, _⟩ := hA'.cons
      have e1 : isT T i sMinus = false := by rw [isT_of h1 h2]; rfl
      have e2 : isT T i sNot = false := by rw [isT_of h1 h2]; rfl
      have e3 : isT T i sOpen = false := by rw [isT_of h1 h2]; rfl
      have e4 : kindAt T i = 1 := by rw [kind_of h1 h2]; rfl
      have e9 : (tkE (.mk 2 0 s sl lo 0 [])).length = 1 := by simp [tkE]
      rw [e9] at hbr
      rw [xU_eq T hi, e1, e2, if_neg (by decide), if_neg (by decide), xP_eq T hi, e3, if_neg (by decide), if_neg (by rw [e4]; decide), pName, if_pos e4, andT_ok, hbr, if_neg (by decide), text_of h2, e9]
      simp [exC, exCs, exName, tkN]
  | .mk k n s sl lo o [x], d, h => by
    simp only [exR, Bool.and_eq_true, Bool.or_eq_true, decide_eq_true_eq] at h
    obtain ⟨-, hn, ho, hs, hk, hx⟩ := h
    have ih := parse_ex T nm x (d - 1) hx
    have hb := bind_pos nm x (d - 1) hx
    rcases hk with rfl | hk
    · have hn' : n = 0 := hn.resolve_left (by decide)
      have ho' : o = 0 := ho.resolve_left (by decide)
      subst hn' ho'
      refine PE.of_un (by simp [Ex.bind]) fun i hi hA hbr => ?_
      have hA' : AtT T i (tkN s :: tkS sBrO :: (tkE x ++ [tkS sBrS])) := by simpa [tkE] using hA
      obtain ⟨h1, h2, h3⟩ := hA'.cons
      obtain ⟨h4, h5, h6⟩ := h3.cons
      have h7 := h6.left
      obtain ⟨h8, h9, _⟩ := h6.right.cons
      have e1 : isT T i sMinus = false := by rw [isT_of h1 h2]; rfl
      have e2 : isT T i sNot = false := by rw [isT_of h1 h2]; rfl
      have e3 : isT T i sOpen = false := by rw [isT_of h1 h2]; rfl
      have e4 : kindAt T i = 1 := by rw [kind_of h1 h2]; rfl
      have e5 : isT T (i + 1) sBrO = true := by rw [isT_of h4 h5]; decide +kernel
      have e6 : opAt T (i + 1 + 1 + (tkE x).length) = 0 := by rw [opAt_of h8 h9]; decide +kernel
      have e7 : isT T (i + 1 + 1 + (tkE x).length) sBrS = true := by rw [isT_of h8 h9]; decide +kernel
      have e10 : isT T (i + 1 + 1 + (tkE x).length) sBrO = false := by rw [isT_of h8 h9]; decide +kernel
      rw [xU_eq T hi, e1, e2, if_neg (by decide), if_neg (by decide), xP_eq T hi, e3, if_neg (by decide), if_neg (by rw [e4]; decide), pName, if_pos e4, andT_ok, e5, if_pos rfl,
        ih.ex 1 (i + 1 + 1) (Nat.le_refl _) hb (by omega) h7 e10 (.inl e6), xL_stop (by omega) (.inl e6), andT_ok, want, e7, if_pos rfl, andT_ok, text_of h2]
      have e8 : exC (.mk 3 0 s sl lo 0 [x]) = exCell s (exC x) := by simp [exC, exCs, exCell]
      rw [e8]
      have e9 : (tkE (.mk 3 0 s sl lo 0 [x])).length = (tkE x).length + 3 := by simp [tkE]
      rw [e9, show i + 1 + 1 + (tkE x).length + 1 = i + ((tkE x).length + 3) by omega]
      rfl
    · have hk3 : k ≠ 3 := by omega
      have hn' : n = 0 := hn.resolve_left (by omega)
      have ho' : o = 0 := ho.resolve_left (by omega)
      rw [if_neg (by omega)] at hs
      simp only [decide_eq_true_eq] at hs
      subst hn' ho' hs
      have hb6 : 6 ≤ (Ex.mk k 0 noB sl lo 0 [x]).bind := by
        simp only [Ex.bind]
        rw [if_neg (by omega), if_pos hk]
        exact Nat.le_refl _
      refine PE.of_un hb6 fun i hi hA hbr => ?_
      have hA' : AtT T i (tkS (if k = 4 then sMinus else sNot) :: parK x.bind 6 (tkE x)) := by simpa [tkE, hk3] using hA
      obtain ⟨h1, h2, h3⟩ := hA'.cons
      have e9 : (tkE (.mk k 0 noB sl lo 0 [x])).length = 1 + (parK x.bind 6 (tkE x)).length := by
        simp only [tkE, if_neg hk3, List.length_cons]
        omega
      rw [e9, ← Nat.add_assoc] at hbr
      have hun : xU T (i + 1) = some (.ok (exC x, i + 1 + (parK x.bind 6 (tkE x)).length)) := by
        unfold parK at h3 ⊢
        by_cases hl : x.bind < 6
        · rw [if_pos hl] at h3 ⊢
          rw [paren ih hb (by omega) h3]
          simp
        · unfold parK at hbr
          rw [if_neg hl] at h3 hbr ⊢
          exact ih.un (i + 1) (by omega) (by omega) h3 hbr
      rcases hk with rfl | rfl
      · have e1 : isT T i sMinus = true := by rw [isT_of h1 h2]; decide +kernel
        rw [xU_eq T hi, e1, if_pos rfl, hun, andT_ok, e9, Nat.add_assoc]
        simp [exC, exCs, exNeg]
      · have e1 : isT T i sMinus = false := by rw [isT_of h1 h2]; decide +kernel
        have e2 : isT T i sNot = true := by rw [isT_of h1 h2]; decide +kernel
        rw [xU_eq T hi, e1, if_neg (by decide), e2, if_pos rfl, hun, andT_ok, e9, Nat.add_assoc]
        simp [exC, exCs, exNot]
  | .mk k n s sl lo o [x, y], d, h => by
    simp only [exR, Bool.and_eq_true, Bool.or_eq_true, decide_eq_true_eq] at h
    obtain ⟨-, hn, -, hs, ⟨rfl, ho1, ho2⟩, hx, hy⟩ := h
    have hn' : n = 0 := hn.resolve_left (by decide)
    rw [if_neg (by decide)] at hs
    simp only [decide_eq_true_eq] at hs
    subst hn' hs
    have ihx := parse_ex T nm x (d - 1) hx
    have ihy := parse_ex T nm y (d - 1) hy
    have hbx := bind_pos nm x (d - 1) hx
    have hby := bind_pos nm y (d - 1) hy
    obtain ⟨q, rfl⟩ : ∃ q : Nat, o = q := ⟨o.toNat, by omega⟩
    have hq : q < 12 ∧ 1 ≤ q := by omega
    have hop : opOf (opS.getD q noB) = q := op_text ⟨q, hq.1⟩ hq.2
    have hr5 : rankOf q ≤ 5 := rank_le ⟨q, hq.1⟩
    have hr1 : 1 ≤ rankOf q := rank_pos ⟨q, hq.1⟩ hq.2
    have hbd : (Ex.mk 6 0 noB sl lo (q : Int) [x, y]).bind = rankOf q := by simp [Ex.bind]
    obtain ⟨r, hr⟩ : ∃ r, rankOf q = r := ⟨_, rfl⟩
    obtain ⟨lv, hlv⟩ : ∃ lv, (if r = 3 then 4 else r) = lv := ⟨_, rfl⟩
    have hlv1 : r ≤ lv ∧ lv ≤ 6 ∧ (r = 3 → lv = 4) ∧ (r ≠ 3 → lv = r) := by
      rw [← hlv]
      split <;> omega
    refine ⟨fun n i hn1 hn2 hi hA hbr hst => ?_, fun i h6 _ _ _ => by omega⟩
    rw [hbd, hr] at hn2 hst
    have e0 : tkE (.mk 6 0 noB sl lo (q : Int) [x, y]) = parK x.bind lv (tkE x) ++ (tkS (opS.getD q noB) :: parK y.bind (r + 1) (tkE y)) := by
      simp only [tkE, Int.toNat_natCast, hr, hlv]
    rw [e0] at hA hbr hst ⊢
    obtain ⟨UX, hUX⟩ : ∃ U, parK x.bind lv (tkE x) = U := ⟨_, rfl⟩
    obtain ⟨UY, hUY⟩ : ∃ U, parK y.bind (r + 1) (tkE y) = U := ⟨_, rfl⟩
    rw [hUX, hUY] at hA hbr hst ⊢
    have hAx := hA.left
    obtain ⟨h1, h2, hAy⟩ := hA.right.cons
    have hop1 : opAt T (i + UX.length) = q := by rw [opAt_of h1 h2]; simp only [tkS, if_true]; exact hop
    have hlen : i + (UX ++ (tkS (opS.getD q noB) :: UY)).length = i + UX.length + 1 + UY.length := by simp; omega
    rw [hlen] at hbr hst ⊢
    have hbrx : isT T (i + UX.length) sBrO = false := by
      rw [isT_of h1 h2]
      have : decide (opS.getD q noB = sBrO) = false := op_nbr ⟨q, hq.1⟩
      show ((decide ((4 : Int) = 3) || decide ((4 : Int) = 4)) && decide (opS.getD q noB = sBrO)) = false
      rw [this]
      exact Bool.and_false _
    have hr6 : r ≤ 5 := by omega
    have hst2 : opAt T (i + UX.length + 1 + UY.length) = 0 ∨ rankOf (opAt T (i + UX.length + 1 + UY.length)) ≤ r := by omega
    have hiX : i + UX.length ≤ T.length := by omega
    have hiY := hAy.len (by omega)
    have hL : ∃ m, r ≤ m ∧ xE T n i = xL T n m (exC x) (i + UX.length) := by
      unfold parK at hUX
      by_cases hl : x.bind < lv
      · rw [if_pos hl] at hUX
        subst hUX
        refine ⟨6, by omega, ?_⟩
        rw [xE_eq T hi, paren ihx hbx hi hAx, andT_ok]
        simp
      · rw [if_neg hl] at hUX
        subst hUX
        refine ⟨Mx x.bind, ?_, ihx.ex n i hn1 (by omega) hi hAx hbrx (.inr (.inr (by rw [hop1, hr]; omega)))⟩
        unfold Mx nextM
        split
        · omega
        · split <;> omega
    have hR : xE T (r + 1) (i + UX.length + 1) = some (.ok (exC y, i + UX.length + 1 + UY.length)) := by
      unfold parK at hUY
      by_cases hl : y.bind < r + 1
      · rw [if_pos hl] at hUY
        subst hUY
        rw [xE_eq T (by omega), paren ihy hby (by omega) hAy, andT_ok]
        rw [show i + UX.length + 1 + ((tkE y).length + 2) = i + UX.length + 1 + (tkS sOpen :: (tkE y ++ [tkS sShut])).length by simp]
        exact xL_stop hiY (by omega)
      · rw [if_neg hl] at hUY
        subst hUY
        rw [ihy.ex (r + 1) _ (by omega) (by omega) (by omega) hAy hbr (by omega)]
        exact xL_stop hiY (by omega)
    obtain ⟨m, hm, hL⟩ := hL
    have hcond : ¬ (opAt T (i + UX.length) = 0 ∨ rankOf (opAt T (i + UX.length)) < n ∨ m < rankOf (opAt T (i + UX.length))) := by rw [hop1, hr]; omega
    rw [hL, xL_eq T hiX, if_neg hcond, hop1, hr, hR, andT_ok, hbd, hr]
    have hMx : Mx r = nextM r := by unfold Mx; rw [if_neg (by omega)]
    rw [hMx]
    simp [exC, exCs, exBin]
  | .mk k n s sl lo o (_ :: _ :: _ :: _), d, h => by simp [exR] at h
end Go.Proofs.YtjmlmelcppbefaaGreatDoor
namespace Go.Proofs.YtjmlmelcppbefaaGreatDoor
section
variable (T : List Wd)
theorem andT_mono {α β : Type} {x x' : PR α} {k k' : α → Nat → PR β} {R : Except Nat (β × Nat)} (hx : ∀ Q, x = some Q → x' = some Q) (hk : ∀ a j Q, k a j = some Q → k' a j = some Q) (h : andT x k = some R) : andT x' k' = some R := by
  rcases hq : x with _ | (j | ⟨a, j⟩)
  · rw [hq] at h; cases h
  · rw [hq] at h; rw [hx _ hq]; exact h
  · rw [hq] at h; rw [hx _ hq]; exact hk _ _ _ h
theorem pSMono : ∀ f, (∀ i R, pB T f i = some R → pB T (f + 1) i = some R) ∧ (∀ acc i R, pSs T f acc i = some R → pSs T (f + 1) acc i = some R) ∧ (∀ i R, pS T f i = some R → pS T (f + 1) i = some R) := by
  intro f
  induction f with
  | zero => exact ⟨fun _ _ h => by simp [pB] at h, fun _ _ _ h => by simp [pSs] at h, fun _ _ h => by simp [pS] at h⟩
  | succ f ih =>
    obtain ⟨hB, hSs, hS⟩ := ih
    refine ⟨fun i R h => ?_, fun acc i R h => ?_, fun i R h => ?_⟩
    · rw [pB] at h ⊢
      exact andT_mono (fun _ h => h) (fun _ j Q h => hSs _ _ _ h) h
    · rw [pSs] at h ⊢
      split at h
      · rename_i hc; rw [if_pos hc]; exact h
      · rename_i hc; rw [if_neg hc]; exact andT_mono (fun Q h => hS _ _ h) (fun _ j Q h => hSs _ _ _ h) h
    · rw [pS] at h ⊢
      split at h
      · rename_i hc; rw [if_pos hc]; exact h
      rename_i hc; rw [if_neg hc]
      split at h
      · rename_i hc; rw [if_pos hc]; exact h
      rename_i hc; rw [if_neg hc]
      split at h
      · rename_i hc; rw [if_pos hc]
        exact andT_mono (fun _ h => h) (fun x j Q h => andT_mono (fun Q h => hB _ _ h) (fun _ _ _ h => h) h) h
      rename_i hc; rw [if_neg hc]
      split at h
      · rename_i hc; rw [if_pos hc]
        refine andT_mono (fun _ h => h) (fun x j Q h => andT_mono (fun Q h => hB _ _ h) (fun b m Q h => ?_) h) h
        split at h
        · rename_i hc; rw [if_pos hc]
          exact andT_mono (fun Q h => hB _ _ h) (fun _ _ _ h => h) h
        · rename_i hc; rw [if_neg hc]; exact h
      · rename_i hc; rw [if_neg hc]; exact h
def xB (i : Nat) : PR (List St) := pB T (3 * T.length + 3) i
def xSs (acc : List St) (i : Nat) : PR (List St) := pSs T (3 * T.length + 3) acc i
def xS (i : Nat) : PR St := pS T (3 * T.length + 3) i
theorem pB_x {f i : Nat} (hi : i ≤ T.length) (hf : f + 1 = 3 * T.length + 3) (hb : 3 * (T.length - i) + 1 ≤ f) : pB T f i = xB T i := by
  obtain ⟨R, hR, _⟩ := (pSTotal T f).1 i hi hb
  rw [hR, xB, ← hf, (pSMono T f).1 _ _ hR]
theorem pSs_x {f i : Nat} {acc : List St} (hi : i ≤ T.length) (hf : f + 1 = 3 * T.length + 3) (hb : 3 * (T.length - i) + 2 ≤ f) : pSs T f acc i = xSs T acc i := by
  obtain ⟨R, hR, _⟩ := (pSTotal T f).2.1 acc i hi hb
  rw [hR, xSs, ← hf, (pSMono T f).2.1 _ _ _ hR]
theorem pS_x {f i : Nat} (hi : i ≤ T.length) (hf : f + 1 = 3 * T.length + 3) (hb : 3 * (T.length - i) + 1 ≤ f) : pS T f i = xS T i := by
  obtain ⟨R, hR, _⟩ := (pSTotal T f).2.2 i hi hb
  rw [hR, xS, ← hf, (pSMono T f).2.2 _ _ hR]
theorem xS_adv {i j : Nat} {x : St} (hi : i ≤ T.length) (h : xS T i = some (.ok (x, j))) : i < j ∧ j ≤ T.length := by
  obtain ⟨R, hR, hA⟩ := (pSTotal T (3 * T.length + 3)).2.2 i hi (by omega)
  rw [xS, hR] at h
  exact hA x j (Option.some.inj h)
theorem xB_adv {i j : Nat} {x : List St} (hi : i ≤ T.length) (h : xB T i = some (.ok (x, j))) : i < j ∧ j ≤ T.length := by
  obtain ⟨R, hR, hA⟩ := (pSTotal T (3 * T.length + 3)).1 i hi (by omega)
  rw [xB, hR] at h
  exact hA x j (Option.some.inj h)
theorem pX_adv {i j : Nat} {x : Ex} (hi : i ≤ T.length) (h : pX T i = some (.ok (x, j))) : i < j ∧ j ≤ T.length := by
  obtain ⟨R, hR, hA⟩ := pX_total T hi
  rw [hR] at h
  exact hA x j (Option.some.inj h)
theorem xB_eq {i : Nat} (_hi : i ≤ T.length) : xB T i = andT (want T sBlO i) fun _ j => xSs T [] j := by
  rw [xB, show 3 * T.length + 3 = (3 * T.length + 2) + 1 from rfl, pB]
  refine andT_congr fun _ j h => ?_
  obtain ⟨rfl, h2⟩ := want_ok T h
  exact pSs_x T (by omega) rfl (by omega)
theorem xSs_eq {i : Nat} {acc : List St} (hi : i ≤ T.length) : xSs T acc i = if isT T i sBlS = true then some (.ok (acc, i + 1)) else andT (xS T i) fun s j => xSs T (acc ++ [s]) j := by
  rw [xSs, show 3 * T.length + 3 = (3 * T.length + 2) + 1 from rfl, pSs]
  split
  · rfl
  · rw [pS_x T hi rfl (by omega)]
    refine andT_congr fun _ j h => ?_
    have := xS_adv T hi h
    exact pSs_x T (by omega) rfl (by omega)
theorem xS_eq {i : Nat} (_hi : i ≤ T.length) : xS T i =
    if kindAt T i = 1 then pAssign T (plOf T i) i
    else if kindAt T i ≠ 3 ∨ stOf (T.getD i default).text = 0 then some (.error i)
    else if stOf (T.getD i default).text = 5 then andT (pX T (i + 1)) fun x j => andT (xB T j) fun b m => some (.ok (mkSt 5 (plOf T i) noB noB x zEx b [], m))
    else if stOf (T.getD i default).text = 4 then andT (pX T (i + 1)) fun x j => andT (xB T j) fun b m =>
      if isT T m wElse = true then andT (xB T (m + 1)) fun c n => some (.ok (mkSt 4 (plOf T i) noB noB x zEx b c, n)) else some (.ok (mkSt 4 (plOf T i) noB noB x zEx b [], m))
    else pPlain T (plOf T i) (stOf (T.getD i default).text) (i + 1) := by
  rw [xS, show 3 * T.length + 3 = (3 * T.length + 2) + 1 from rfl, pS]
  split
  · rfl
  split
  · rfl
  rename_i hc
  have hk : kindAt T i = 3 := by
    rcases Int.decEq (kindAt T i) 3 with h | h
    · exact absurd (.inl h) hc
    · exact h
  have hlt := kind_lt T (i := i) (by rw [hk]; decide)
  split
  · refine andT_congr fun x j h => ?_
    have := pX_adv T (by omega) h
    rw [pB_x T (by omega) rfl (by omega)]
  split
  · refine andT_congr fun x j h => ?_
    have h1 := pX_adv T (by omega) h
    rw [pB_x T (by omega) rfl (by omega)]
    refine andT_congr fun b m h => ?_
    have h2 := xB_adv T (by omega) h
    split
    · rename_i hc
      have := isT_lt T hc
      rw [pB_x T (by omega) rfl (by omega)]
    · rfl
  · rfl
end
end Go.Proofs.YtjmlmelcppbefaaGreatDoor
namespace Go.Proofs.YtjmlmelcppbefaaGreatDoor
open Go.RowKit
def sgnL (L : List UInt8) : Nat := if 2 ≤ L.length ∧ isSg (L.take 2) = true then 2 else if isSg (L.take 1) then 1 else 0
def badL (L : List UInt8) : Bool := !(numP (L.takeWhile isDig)).2 || ((L.drop (L.takeWhile isDig).length).head?.any isLet)
def wordL (L : List UInt8) : Int × Nat × Int × Int :=
  if isLet (L.headD 0) then (if isKw (L.takeWhile isAny) then 3 else 1, (L.takeWhile isAny).length, 0, if isKw (L.takeWhile isAny) then 0 else if 16 < (L.takeWhile isAny).length then 111 else 0)
  else if isDig (L.headD 0) then (2, (L.takeWhile isDig).length, if badL L then 0 else (numP (L.takeWhile isDig)).1, if badL L then 112 else 0)
  else (4, sgnL L, 0, if sgnL L = 0 then 110 else 0)
theorem head_byte {s : ByteArray} {k : Nat} (hk : k < s.size) : (s.data.toList.drop k).headD 0 = byte s k := by rw [drop_byte hk]; rfl
theorem ext_take {s : ByteArray} {k n : Nat} : (s.extract k (k + n)).data.toList = (s.data.toList.drop k).take n := by
  rw [ByteArray.data_extract, Array.toList_extract, List.extract_eq_take_drop]
  congr 1
  omega
theorem sgn_list {s : ByteArray} {k : Nat} (hk : k < s.size) : sgnF s k (min 2 (s.size - k)) = sgnL (s.data.toList.drop k) := by
  have hl : (s.data.toList.drop k).length = s.size - k := by rw [List.length_drop, size_list]
  unfold sgnL
  rw [hl]
  by_cases h2 : 2 ≤ s.size - k
  · rw [show min 2 (s.size - k) = 2 by omega]
    simp only [sgnF, ext_take, h2, true_and]
  · rw [show min 2 (s.size - k) = 1 by omega]
    simp only [sgnF, ext_take, h2, false_and, if_false]
theorem word_list {s : ByteArray} {k : Nat} (hk : k < s.size) :
    wKind s k = (wordL (s.data.toList.drop k)).1 ∧ wEnd s k = k + (wordL (s.data.toList.drop k)).2.1 ∧ wNum s k = (wordL (s.data.toList.drop k)).2.2.1 ∧ wErr s k = (wordL (s.data.toList.drop k)).2.2.2 := by
  have hE : ∀ f, endOf f s k = k + ((s.data.toList.drop k).takeWhile f).length := fun _ => rfl
  have hbad : badP s k = badL (s.data.toList.drop k) := by
    unfold badP badL
    rw [next_let, extract_while, hE, ← List.drop_drop]
  unfold wordL wKind wEnd wNum wErr
  rw [head_byte hk, hbad, sgn_list hk, extract_while, extract_while]
  cases isLet (byte s k) with
  | true =>
    refine ⟨rfl, rfl, rfl, ?_⟩
    simp only [if_true, hE, Nat.add_sub_cancel_left]
  | false =>
    cases isDig (byte s k) with
    | true => exact ⟨rfl, rfl, rfl, rfl⟩
    | false => exact ⟨rfl, rfl, rfl, rfl⟩
end Go.Proofs.YtjmlmelcppbefaaGreatDoor
namespace Go.Proofs.YtjmlmelcppbefaaGreatDoor
open Go.RowKit
def Ch (s : ByteArray) : Nat → List Wd → Prop
  | k, [] => ¬ gapAt s k < s.size
  | k, t :: r => gapAt s k < s.size ∧ wErr s (gapAt s k) = 0 ∧ t = tokW s (gapAt s k) ∧ Ch s (wEnd s (gapAt s k)) r
theorem Ch.to_lex {s : ByteArray} : ∀ (l : List Wd) (k : Nat) (acc : List Wd), Ch s k l → lexA s k acc = (acc ++ l, (0, 0), 0)
  | [], k, acc, h => by rw [lexA_end h, List.append_nil]
  | t :: r, k, acc, ⟨h1, h2, h3, h4⟩ => by
    rw [← lexA_on h1 h2, Ch.to_lex r _ _ h4, ← h3, List.append_assoc]
    rfl
def SamW (a b : Wd) : Prop := a.kind = b.kind ∧ a.text = b.text ∧ a.num = b.num
def SamL : List Wd → List Wd → Prop
  | [], [] => True
  | a :: m, b :: l => SamW a b ∧ SamL m l
  | _, _ => False
theorem SamL.len : ∀ {m l : List Wd}, SamL m l → m.length = l.length
  | [], [], _ => rfl
  | _ :: m, _ :: l, h => by rw [List.length_cons, List.length_cons, SamL.len h.2]
theorem SamL.at : ∀ {m l : List Wd} (_ : SamL m l) (i : Nat), i < l.length → SamW (m.getD i default) (l.getD i default)
  | [], [], _, i, hi => by cases hi
  | _ :: m, _ :: l, h, 0, _ => h.1
  | _ :: m, _ :: l, h, i + 1, hi => SamL.at h.2 i (by simpa using hi)
end Go.Proofs.YtjmlmelcppbefaaGreatDoor
namespace Go.Proofs.YtjmlmelcppbefaaGreatDoor
open Go.RowKit
inductive Lx : List UInt8 → List Ky → Prop
  | nil {g : List UInt8} (hg : ∀ c ∈ g, isBl c = true) : Lx g []
  | cons {g w L : List UInt8} {u : Ky} {U : List Ky} (hg : ∀ c ∈ g, isBl c = true) (hw : w ≠ []) (hb : isBl (w.headD 0) = false) (h35 : ¬ (w.headD 0).toNat = 35)
      (hW : wordL (w ++ L) = (u.kind, w.length, u.num, 0)) (ht : u.text.data.toList = w) (h : Lx L U) : Lx (g ++ (w ++ L)) (u :: U)
theorem gap_blanks {s : ByteArray} : ∀ (g R : List UInt8) (k : Nat), s.data.toList.drop k = g ++ R → (∀ c ∈ g, isBl c = true) → gapAt s k = gapAt s (k + g.length)
  | [], _, _, _, _ => rfl
  | c :: g, R, k, hd, hg => by
    have hk : k < s.size := by
      have := congrArg List.length hd
      rw [List.length_drop, size_list] at this
      simp at this
      omega
    have hb : byte s k = c := by rw [← head_byte hk, hd]; rfl
    have hd2 : s.data.toList.drop (k + 1) = g ++ R := by rw [← List.drop_drop, hd]; rfl
    rw [← gap_bl hk (by rw [hb]; exact hg c (List.mem_cons_self ..)), gap_blanks g R (k + 1) hd2 fun x hx => hg x (List.mem_cons_of_mem _ hx), List.length_cons, show k + 1 + g.length = k + (g.length + 1) by omega]
theorem Lx.ch {s : ByteArray} {L : List UInt8} {U : List Ky} (h : Lx L U) : ∀ k, s.data.toList.drop k = L → ∃ m, Ch s k m ∧ m.map stp = U := by
  induction h with
  | @nil g hg =>
    intro k hd
    refine ⟨[], ?_, rfl⟩
    have hl : s.size - k = g.length := by
      have := congrArg List.length hd
      rwa [List.length_drop, size_list] at this
    unfold Ch
    rw [gap_blanks g [] k (by rw [hd, List.append_nil]) hg, gap_out (by omega)]
    omega
  | @cons g w L u U hg hw hb h35 hW ht _ ih =>
    intro k hd
    have hl : s.size - k = g.length + (w.length + L.length) := by
      have := congrArg List.length hd
      rwa [List.length_drop, size_list, List.length_append, List.length_append] at this
    have hpos : 0 < w.length := List.length_pos_iff.2 hw
    have hd1 : s.data.toList.drop (k + g.length) = w ++ L := by rw [← List.drop_drop, hd, List.drop_left]
    have hd2 : s.data.toList.drop (k + g.length + w.length) = L := by rw [← List.drop_drop, hd1, List.drop_left]
    obtain ⟨m, hm, hmu⟩ := ih _ hd2
    have hp : k + g.length < s.size := by omega
    have hby : byte s (k + g.length) = w.headD 0 := by
      rw [← head_byte hp, hd1]
      match w, hw with
      | _ :: _, _ => rfl
    have hga : gapAt s k = k + g.length := by rw [gap_blanks g _ k hd hg, gap_at hp (by rw [hby]; exact hb) (by rw [hby]; exact h35)]
    obtain ⟨w1, w2, w3, w4⟩ := word_list (s := s) (k := k + g.length) hp
    rw [hd1, hW] at w1 w2 w3 w4
    simp only at w1 w2 w3 w4
    refine ⟨tokW s (k + g.length) :: m, ?_, ?_⟩
    · unfold Ch
      rw [hga]
      exact ⟨hp, w4, rfl, by rw [w2]; exact hm⟩
    · rw [List.map_cons, hmu]
      congr 1
      have ht2 : s.extract (k + g.length) (k + g.length + w.length) = u.text := by
        refine ByteArray.ext (Array.ext' ?_)
        rw [ext_take, hd1, List.take_left, ht]
      show (⟨wKind s _, s.extract _ (wEnd s _), wNum s _⟩ : Ky) = u
      rw [w1, w2, w3, ht2]
theorem Lx.lexR {s : ByteArray} {U : List Ky} (h : Lx s.data.toList U) (hs : s.size ≤ 65536) : ∃ m, lexR s = (m, (0, 0), 0) ∧ m.map stp = U := by
  obtain ⟨m, hm, hu⟩ := h.ch (s := s) 0 rfl
  refine ⟨m, ?_, hu⟩
  unfold Go.Proofs.YtjmlmelcppbefaaGreatDoor.lexR
  rw [if_neg (by omega), hm.to_lex]
  rfl
theorem at_map {T : List Wd} {U : List Ky} (h : T.map stp = U) : AtT T 0 U := by
  subst h
  intro j hj
  rw [List.length_map] at hj
  rw [Nat.zero_add]
  refine ⟨hj, ?_⟩
  rw [List.getD_eq_getElem?_getD, List.getD_eq_getElem?_getD, List.getElem?_map, List.getElem?_eq_getElem hj]
  rfl
theorem Lx.bl {c : UInt8} {L : List UInt8} {U : List Ky} (hc : isBl c = true) (h : Lx L U) : Lx (c :: L) U := by
  have hall : ∀ {g : List UInt8}, (∀ x ∈ g, isBl x = true) → ∀ x ∈ c :: g, isBl x = true := fun hg x hx => by
    rcases List.mem_cons.1 hx with rfl | hx
    · exact hc
    · exact hg x hx
  cases h with
  | nil hg => exact .nil (hall hg)
  | cons hg hw hb h35 hW ht h => rw [← List.cons_append]; exact .cons (hall hg) hw hb h35 hW ht h
theorem Lx.wd {w L : List UInt8} {u : Ky} {U : List Ky} (h : Lx L U) (hw : w ≠ []) (hb : isBl (w.headD 0) = false ∧ ¬ (w.headD 0).toNat = 35) (hW : wordL (w ++ L) = (u.kind, w.length, u.num, 0)) (ht : u.text.data.toList = w) : Lx (w ++ L) (u :: U) :=
  .cons (g := []) (fun c hc => by cases hc) hw hb.1 hb.2 hW ht h
end Go.Proofs.YtjmlmelcppbefaaGreatDoor
namespace Go.Proofs.YtjmlmelcppbefaaGreatDoor
open Go.RowKit
section
variable {L : List UInt8} {U : List Ky}
theorem lx_shut (h : Lx L U) : Lx (41 :: L) (tkS sShut :: U) := h.wd (w := [41]) (by simp) (by decide) (by cases L <;> kernel_rfl) rfl
theorem lx_open (h : Lx L U) : Lx (40 :: L) (tkS sOpen :: U) := h.wd (w := [40]) (by simp) (by decide) (by cases L <;> kernel_rfl) rfl
theorem lx_semi (h : Lx L U) : Lx (59 :: L) (tkS sSemi :: U) := h.wd (w := [59]) (by simp) (by decide) (by cases L <;> kernel_rfl) rfl
theorem lx_blo (h : Lx L U) : Lx (123 :: L) (tkS sBlO :: U) := h.wd (w := [123]) (by simp) (by decide) (by cases L <;> kernel_rfl) rfl
theorem lx_bls (h : Lx L U) : Lx (125 :: L) (tkS sBlS :: U) := h.wd (w := [125]) (by simp) (by decide) (by cases L <;> kernel_rfl) rfl
theorem lx_minus (h : Lx L U) : Lx (45 :: L) (tkS sMinus :: U) := h.wd (w := [45]) (by simp) (by decide) (by cases L <;> kernel_rfl) rfl
end
variable {T : List Wd}
end Go.Proofs.YtjmlmelcppbefaaGreatDoor
