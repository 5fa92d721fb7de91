/- A word is taken off, whatever it begins with. Asked: the reader lies, and its maps; ErrRange is laid. -/
import Derived.Test.YtinfocnihngbiaaDoorWord3
namespace Go.Proofs.YtinfocnihngbiaaDoor
open Go.RowKit Go.Maps

/-- The word at byte k: its kind, its end, its number, its error. -/
def wKind (s : ByteArray) (k : Nat) : Int := if isLet (byte s k) then (if isKw (s.extract k (endOf isAny s k)).data.toList then 3 else 1) else if isDig (byte s k) then 2 else 4
def wEnd (s : ByteArray) (k : Nat) : Nat := if isLet (byte s k) then endOf isAny s k else if isDig (byte s k) then endOf isDig s k else k + sgnF s k (min 2 (s.size - k))
def wNum (s : ByteArray) (k : Nat) : Int := if isLet (byte s k) then 0 else if isDig (byte s k) then (if badP s k then 0 else (numP (s.extract k (endOf isDig s k)).data.toList).1) else 0
def wErr (s : ByteArray) (k : Nat) : Int :=
  if isLet (byte s k) then (if isKw (s.extract k (endOf isAny s k)).data.toList then 0 else if 16 < endOf isAny s k - k then 111 else 0)
  else if isDig (byte s k) then (if badP s k then 112 else 0) else (if sgnF s k (min 2 (s.size - k)) = 0 then 110 else 0)

theorem word_any {w : World} {b k gk gs : Nat} {s : ByteArray} (hR : Rd w b s k (.map (some gk)) (.map (some gs))) (hO : w.ownsMap Tryd.prog 9 (plainElem Tryd.prog 3) gk 20 (Lst kwL 20)) (hO2 : w.ownsMap Tryd.prog 9 (plainElem Tryd.prog 3) gs 20 (Lst sgL 20))
    (hne : gk ≠ b) (hne2 : gs ≠ b) (hk : k < s.size) (hs : s.size ≤ 4294967296) (hEr : ErrR w) (hb1 : b ≠ 1) :
    Calls Tryd.prog 37 #[.pointer (some ⟨b, 0, none⟩)] w (WPost w b s k (.map (some gk)) (.map (some gs)) (wKind s k) (wEnd s k) (wNum s k) (wErr s k)) := by
  unfold wKind wEnd wNum wErr
  cases hc : isLet (byte s k) with
  | true => exact word_let hR hO hne hk hs hc
  | false =>
    cases hd : isDig (byte s k) with
    | true => exact word_dig hR hO hne hk hs hEr hb1 hc hd
    | false => exact word_sgn hR hO2 hne2 hk hs hc hd
/-- A word without an error ends behind its beginning, and in the text. -/
theorem wEnd_le {s : ByteArray} {k : Nat} (hk : k < s.size) : wEnd s k ≤ s.size := by
  unfold wEnd
  split
  · exact (endOf_le (Nat.le_of_lt hk)).2
  · split
    · exact (endOf_le (Nat.le_of_lt hk)).2
    · have h := sgnF_le s k (min 2 (s.size - k))
      omega
theorem wEnd_gt {s : ByteArray} {k : Nat} (hk : k < s.size) (h0 : wErr s k = 0) : k < wEnd s k := by
  unfold wErr at h0
  unfold wEnd
  cases hc : isLet (byte s k) with
  | true => exact endOf_lt hk (by unfold isAny; rw [hc]; rfl)
  | false =>
    cases hd : isDig (byte s k) with
    | true => exact endOf_lt hk hd
    | false =>
      rw [hc, hd] at h0
      simp only [Bool.false_eq_true, if_false] at h0 ⊢
      split at h0
      · cases h0
      · omega
end Go.Proofs.YtinfocnihngbiaaDoor
