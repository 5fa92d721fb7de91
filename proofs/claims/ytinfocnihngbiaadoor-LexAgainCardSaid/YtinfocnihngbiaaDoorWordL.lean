/- A word hangs on the bytes from its beginning on alone; with a blank behind it it is lexed as the same word. No condition but that a byte is there. -/
import Derived.Test.YtinfocnihngbiaaDoorOneA
namespace Go.Proofs.YtinfocnihngbiaaDoor
open Go.RowKit

/-- The length of the sign ahead of a list; 0: there is none. -/
def sgnL (L : List UInt8) : Nat := if 2 ≤ L.length ∧ isSg (L.take 2) = true then 2 else if isSg (L.take 1) then 1 else 0
def badL (L : List UInt8) : Bool := !(numP (L.takeWhile isDig)).2 || ((L.drop (L.takeWhile isDig).length).head?.any isLet)
/-- The word ahead of a list: kind, length, number, error. -/
def wordL (L : List UInt8) : Int × Nat × Int × Int :=
  if isLet (L.headD 0) then (if isKw (L.takeWhile isAny) then 3 else 1, (L.takeWhile isAny).length, 0, if isKw (L.takeWhile isAny) then 0 else if 16 < (L.takeWhile isAny).length then 111 else 0)
  else if isDig (L.headD 0) then (2, (L.takeWhile isDig).length, if badL L then 0 else (numP (L.takeWhile isDig)).1, if badL L then 112 else 0)
  else (4, sgnL L, 0, if sgnL L = 0 then 110 else 0)
theorem head_byte {s : ByteArray} {k : Nat} (hk : k < s.size) : (s.data.toList.drop k).headD 0 = byte s k := by rw [drop_byte hk]; rfl
theorem ext_take {s : ByteArray} {k n : Nat} : (s.extract k (k + n)).data.toList = (s.data.toList.drop k).take n := by
  rw [ByteArray.data_extract, Array.toList_extract, List.extract_eq_take_drop]
  congr 1
  omega
theorem sgn_list {s : ByteArray} {k : Nat} (hk : k < s.size) : sgnF s k (min 2 (s.size - k)) = sgnL (s.data.toList.drop k) := by
  have hl : (s.data.toList.drop k).length = s.size - k := by rw [List.length_drop, size_list]
  unfold sgnL
  rw [hl]
  by_cases h2 : 2 ≤ s.size - k
  · rw [show min 2 (s.size - k) = 2 by omega]
    simp only [sgnF, ext_take, h2, true_and]
  · rw [show min 2 (s.size - k) = 1 by omega]
    simp only [sgnF, ext_take, h2, false_and, if_false]
theorem word_list {s : ByteArray} {k : Nat} (hk : k < s.size) :
    wKind s k = (wordL (s.data.toList.drop k)).1 ∧ wEnd s k = k + (wordL (s.data.toList.drop k)).2.1 ∧ wNum s k = (wordL (s.data.toList.drop k)).2.2.1 ∧ wErr s k = (wordL (s.data.toList.drop k)).2.2.2 := by
  have hE : ∀ f, endOf f s k = k + ((s.data.toList.drop k).takeWhile f).length := fun _ => rfl
  have hbad : badP s k = badL (s.data.toList.drop k) := by
    unfold badP badL
    rw [next_let, extract_while, hE, ← List.drop_drop]
  unfold wordL wKind wEnd wNum wErr
  rw [head_byte hk, hbad, sgn_list hk, extract_while, extract_while]
  cases isLet (byte s k) with
  | true =>
    refine ⟨rfl, rfl, rfl, ?_⟩
    simp only [if_true, hE, Nat.add_sub_cancel_left]
  | false =>
    cases isDig (byte s k) with
    | true => exact ⟨rfl, rfl, rfl, rfl⟩
    | false => exact ⟨rfl, rfl, rfl, rfl⟩

theorem takeWhile_put {f : UInt8 → Bool} {L r : List UInt8} (h32 : f 32 = false) : (L.takeWhile f ++ 32 :: r).takeWhile f = L.takeWhile f := by
  rw [List.takeWhile_append_of_pos (fun x hx => List.all_eq_true.1 List.all_takeWhile x hx), List.takeWhile_cons_of_neg (by rw [h32]; decide), List.append_nil]
theorem take_while {f : UInt8 → Bool} (L : List UInt8) : L.take (L.takeWhile f).length = L.takeWhile f := (List.prefix_iff_eq_take.1 (List.takeWhile_prefix f)).symm
theorem rs_32 : ∀ x ∈ rsL, ∀ c ∈ x.data.toList, c ≠ 32 ∧ c ≠ 35 ∧ isBl c = false := by decide
theorem rs_len : ∀ x ∈ rsL, x.data.toList.length = 1 ∨ x.data.toList.length = 2 := by decide
theorem isSg_32 {t : List UInt8} (h : (32 : UInt8) ∈ t) : isSg t = false := by
  cases hs : isSg t with
  | false => rfl
  | true =>
    obtain ⟨x, hx, he⟩ := (isSg_iff t).1 hs
    rw [← he] at h
    exact absurd rfl (rs_32 x hx 32 h).1
theorem let_any {c : UInt8} (h : isLet c = true) : isAny c = true := by unfold isAny; rw [h]; rfl
theorem dig_any {c : UInt8} (h : isDig c = true) : isAny c = true := by unfold isAny; rw [h]; simp
/-- A word with a blank behind it is the same word. -/
theorem word_again {L : List UInt8} (hL : L ≠ []) (he : (wordL L).2.2.2 = 0) (r : List UInt8) : wordL (L.take (wordL L).2.1 ++ 32 :: r) = wordL L := by
  match L, hL with
  | c :: q, _ =>
    cases hc : isLet c with
    | true =>
      have ha := let_any hc
      have e : wordL (c :: q) = (if isKw ((c :: q).takeWhile isAny) then 3 else 1, ((c :: q).takeWhile isAny).length, 0, if isKw ((c :: q).takeWhile isAny) then 0 else if 16 < ((c :: q).takeWhile isAny).length then 111 else 0) := by
        unfold wordL
        rw [if_pos (show isLet ((c :: q).headD 0) = true from hc)]
      rw [e]
      simp only [take_while]
      unfold wordL
      have hh : (List.takeWhile isAny (c :: q) ++ 32 :: r).headD 0 = c := by rw [List.takeWhile_cons_of_pos ha]; rfl
      rw [hh, if_pos hc, takeWhile_put (by decide)]
    | false =>
      cases hd : isDig c with
      | true =>
        have e : wordL (c :: q) = (2, ((c :: q).takeWhile isDig).length, if badL (c :: q) then 0 else (numP ((c :: q).takeWhile isDig)).1, if badL (c :: q) then 112 else 0) := by
          unfold wordL
          rw [if_neg (show ¬ isLet ((c :: q).headD 0) = true by show ¬ isLet c = true; rw [hc]; decide), if_pos (show isDig ((c :: q).headD 0) = true from hd)]
        rw [e] at he ⊢
        simp only [take_while] at he ⊢
        have hb : badL (c :: q) = false := by
          cases h : badL (c :: q) with
          | false => rfl
          | true => rw [h] at he; cases he
        have hn : (numP ((c :: q).takeWhile isDig)).2 = true := by
          unfold badL at hb
          simp only [Bool.or_eq_false_iff, Bool.not_eq_false'] at hb
          exact hb.1
        have hb2 : badL (List.takeWhile isDig (c :: q) ++ 32 :: r) = false := by
          unfold badL
          rw [takeWhile_put (by decide), hn, List.drop_left]
          rfl
        unfold wordL
        have hh : (List.takeWhile isDig (c :: q) ++ 32 :: r).headD 0 = c := by rw [List.takeWhile_cons_of_pos hd]; rfl
        rw [hh, if_neg (by rw [hc]; decide), if_pos hd, takeWhile_put (by decide), hb, hb2]
      | false =>
        have e : wordL (c :: q) = (4, sgnL (c :: q), 0, if sgnL (c :: q) = 0 then 110 else 0) := by
          unfold wordL
          rw [if_neg (show ¬ isLet ((c :: q).headD 0) = true by show ¬ isLet c = true; rw [hc]; decide), if_neg (show ¬ isDig ((c :: q).headD 0) = true by show ¬ isDig c = true; rw [hd]; decide)]
        rw [e] at he ⊢
        simp only at he ⊢
        have h0 : sgnL (c :: q) ≠ 0 := fun h => by rw [h] at he; cases he
        have hs : sgnL ((c :: q).take (sgnL (c :: q)) ++ 32 :: r) = sgnL (c :: q) := by
          by_cases h2 : 2 ≤ (c :: q).length ∧ isSg ((c :: q).take 2) = true
          · have e2 : sgnL (c :: q) = 2 := if_pos h2
            rw [e2]
            have hlen : ((c :: q).take 2).length = 2 := by rw [List.length_take]; omega
            unfold sgnL
            rw [if_pos]
            refine ⟨by rw [List.length_append, hlen]; omega, ?_⟩
            rw [List.take_append_of_le_length (by omega), List.take_take]
            exact h2.2
          · have e1 : sgnL (c :: q) = 1 := by
              unfold sgnL at h0 ⊢
              rw [if_neg h2] at h0 ⊢
              split at h0
              · rename_i h
                rw [if_pos h]
              · exact absurd rfl h0
            have h1 : isSg ((c :: q).take 1) = true := by
              unfold sgnL at e1
              rw [if_neg h2] at e1
              split at e1
              · assumption
              · cases e1
            rw [e1]
            show sgnL (c :: 32 :: r) = 1
            unfold sgnL
            rw [if_neg, if_pos]
            · exact h1
            · rintro ⟨_, h3⟩
              have h4 := isSg_32 (t := (c :: 32 :: r).take 2) (by simp)
              rw [h4] at h3
              cases h3
        unfold wordL
        have hh : ((c :: q).take (sgnL (c :: q)) ++ 32 :: r).headD 0 = c := by
          obtain ⟨m, hm⟩ : ∃ m, sgnL (c :: q) = m + 1 := ⟨sgnL (c :: q) - 1, by omega⟩
          rw [hm]
          rfl
        rw [hh, if_neg (by rw [hc]; decide), if_neg (by rw [hd]; decide), hs]
end Go.Proofs.YtinfocnihngbiaaDoor
