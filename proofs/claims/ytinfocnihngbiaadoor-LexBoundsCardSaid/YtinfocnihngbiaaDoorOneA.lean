/- The document's word at a place is the program's; what stands between words, and places. Asked: a byte is there. -/
import Derived.Test.YtinfocnihngbiaaDoorOneS
import Derived.Test.YtinfocnihngbiaaDoorLexP
namespace Go.Proofs.YtinfocnihngbiaaDoor
open Go.RowKit

theorem one_any (s : ByteArray) (k : Nat) (hk : k < s.size) (hs : s.size ≤ 4294967296) :
    ∃ kd tx nm nn, (∀ w, Calls Tryd.prog 25 #[.string s, .int .i64 (k : Int)] w (OPost w kd tx nm nn (wErr s k))) ∧
      (wErr s k = 0 → kd = wKind s k ∧ tx = s.extract k (wEnd s k) ∧ nm = wNum s k ∧ k + nn = wEnd s k) := by
  cases hc : isLet (byte s k) with
  | true =>
    have hd : isDig (byte s k) = false := by
      unfold isLet at hc
      unfold isDig
      simp only [Bool.and_eq_true, decide_eq_true_eq, Bool.and_eq_false_iff, decide_eq_false_iff_not] at hc ⊢
      omega
    have hlt : k < endOf isAny s k := endOf_lt hk (by unfold isAny; rw [hc]; rfl)
    have e1 : wErr s k = if isKw (s.extract k (endOf isAny s k)).data.toList then 0 else if 16 < endOf isAny s k - k then 111 else 0 := by unfold wErr; rw [hc]; rfl
    have e2 : wKind s k = if isKw (s.extract k (endOf isAny s k)).data.toList then 3 else 1 := by unfold wKind; rw [hc]; rfl
    have e3 : wEnd s k = endOf isAny s k := by unfold wEnd; rw [hc]; rfl
    have e4 : wNum s k = 0 := by unfold wNum; rw [hc]; rfl
    have h := fun kd tx nn er hkey w => one_let s k w hk hs hc hd _ rfl _ rfl kd tx nn er hkey
    rw [e1, e2, e3, e4]
    generalize (s.extract k (endOf isAny s k)) = T at *
    generalize hE : endOf isAny s k = E at *
    cases hkw : isKw T.data.toList with
    | true =>
      rw [hkw] at h
      exact ⟨3, T, 0, E - k, h 3 T (E - k) 0 ⟨rfl, rfl, rfl, rfl⟩, fun _ => ⟨rfl, rfl, rfl, by omega⟩⟩
    | false =>
      rw [hkw] at h
      by_cases h16 : 16 < E - k
      · simp only [h16, if_true, Bool.false_eq_true, if_false] at h ⊢
        exact ⟨0, ⟨#[]⟩, 0, 0, h 0 ⟨#[]⟩ 0 111 ⟨rfl, rfl, rfl, rfl⟩, fun h0 => by cases h0⟩
      · simp only [h16, Bool.false_eq_true, if_false] at h ⊢
        exact ⟨1, T, 0, E - k, h 1 T (E - k) 0 ⟨rfl, rfl, rfl, rfl⟩, fun _ => ⟨rfl, rfl, rfl, by omega⟩⟩
  | false =>
    cases hd : isDig (byte s k) with
    | true =>
      have hlt : k < endOf isAny s k := endOf_lt hk (by unfold isAny; rw [hd]; simp)
      obtain ⟨l1, l2⟩ := dig_law hk hd
      have e1 : wErr s k = if badP s k then 112 else 0 := by unfold wErr; rw [hc, hd]; rfl
      have e2 : wKind s k = 2 := by unfold wKind; rw [hc, hd]; rfl
      have e3 : wEnd s k = endOf isDig s k := by unfold wEnd; rw [hc, hd]; rfl
      have e4 : wNum s k = if badP s k then 0 else (numP (s.extract k (endOf isDig s k)).data.toList).1 := by unfold wNum; rw [hc, hd]; rfl
      rw [e1, e2, e3, e4]
      have h := fun x q hq kd tx nm nn er hkey w => one_dig s k w hk hs hd _ rfl _ rfl x q hq kd tx nm nn er hkey
      cases hb : badP s k with
      | true =>
        rw [hb] at l1
        refine ⟨0, ⟨#[]⟩, 0, 0, h (rnumP (s.extract k (endOf isAny s k)).data.toList).1 false (by rw [← show _ = false from l1]) 0 ⟨#[]⟩ 0 0 112 ⟨rfl, rfl, rfl, rfl, rfl⟩, fun h0 => ?_⟩
        simp at h0
      | false =>
        rw [hb] at l1
        obtain ⟨l3, l4⟩ := l2 hb
        rw [l3] at l1 l4 h hlt
        refine ⟨2, _, _, endOf isDig s k - k, h (numP (s.extract k (endOf isDig s k)).data.toList).1 true (by rw [← l4, ← show _ = true from l1]) 2 _ _ (endOf isDig s k - k) 0 ⟨rfl, rfl, rfl, rfl, rfl⟩, fun h0 => ⟨rfl, rfl, rfl, by omega⟩⟩
    | false =>
      have e1 : wErr s k = if sgnF s k (min 2 (s.size - k)) = 0 then 110 else 0 := by unfold wErr; rw [hc, hd]; rfl
      have e2 : wKind s k = 4 := by unfold wKind; rw [hc, hd]; rfl
      have e3 : wEnd s k = k + sgnF s k (min 2 (s.size - k)) := by unfold wEnd; rw [hc, hd]; rfl
      have e4 : wNum s k = 0 := by unfold wNum; rw [hc, hd]; rfl
      rw [e1, e2, e3, e4]
      obtain ⟨l1, l2⟩ := sgn_law hk
      have h := fun R hR kd tx nn er hkey w => one_sgn s k w hk hs hc hd R hR kd tx nn er hkey
      generalize sgnF s k (min 2 (s.size - k)) = n at *
      by_cases h0 : n = 0
      · subst h0
        exact ⟨0, ⟨#[]⟩, 0, 0, h _ (l1 rfl) 0 ⟨#[]⟩ 0 110 ⟨(fun x hx => by cases hx), fun _ => ⟨rfl, rfl, rfl, rfl⟩⟩, fun h1 => by cases h1⟩
      · rw [if_neg h0]
        obtain ⟨l3, l4⟩ := l2 h0
        exact ⟨4, _, 0, n, h _ l3 4 (s.extract k (k + n)) n 0 ⟨fun x hx => by cases hx; exact ⟨rfl, rfl, l4, rfl⟩, fun hx => by cases hx⟩, fun _ => ⟨rfl, rfl, rfl, rfl⟩⟩

theorem gap_bl {s : ByteArray} {k : Nat} (hk : k < s.size) (hb : isBl (byte s k) = true) : gapAt s (k + 1) = gapAt s k := by
  rw [gapAt.eq_def s k, gapAt.eq_def s (k + 1), endOf_yes hk hb]
theorem gap_hs {s : ByteArray} {k : Nat} (hk : k < s.size) (hb : (byte s k).toNat = 35) : gapAt s (endOf isNoNl s k) = gapAt s k := by
  have e : endOf isBl s k = k := endOf_no hk (by unfold isBl; rw [hb]; rfl)
  have h := gap_hash (s := s) (k := k) (by rw [e]; exact hk) (by rw [e]; exact hb)
  rw [e] at h
  exact h
theorem gap_at {s : ByteArray} {k : Nat} (hk : k < s.size) (hb : isBl (byte s k) = false) (h35 : ¬ (byte s k).toNat = 35) : gapAt s k = k := by
  have e : endOf isBl s k = k := endOf_no hk hb
  rw [gap_stop (by rw [e]; exact fun h => h35 h.2), e]
theorem gap_out {s : ByteArray} {k : Nat} (hk : s.size ≤ k) : gapAt s k = k := by
  have e : endOf isBl s k = k := endOf_end hk
  rw [gap_stop (by rw [e]; exact fun h => by have := h.1; omega), e]
theorem lexA_gap {s : ByteArray} {k k' : Nat} {acc : List Wd} (h : gapAt s k' = gapAt s k) : lexA s k' acc = lexA s k acc := by
  rw [lexA.eq_def s k, lexA.eq_def s k']
  simp only [h]
theorem posAt_run {s : ByteArray} {k : Nat} (n : Nat) (h : ∀ j, k ≤ j → j < k + n → byte s j ≠ 10) : posAt s (k + n) = ((posAt s k).1, (posAt s k).2 + n) := by
  induction n with
  | zero => simp
  | succ n ih =>
    have ih := ih (fun j h1 h2 => h j h1 (by omega))
    show adv (posAt s (k + n)) (byte s (k + n)) = _
    rw [ih]
    unfold adv
    rw [if_neg (h (k + n) (by omega) (by omega))]
    simp only [Prod.mk.injEq, true_and]
    omega
theorem endOf_mem {f : UInt8 → Bool} {s : ByteArray} {k : Nat} : ∀ j, k ≤ j → j < endOf f s k → f (byte s j) = true := by
  suffices H : ∀ n k, s.size - k ≤ n → ∀ j, k ≤ j → j < endOf f s k → f (byte s j) = true from H _ k (Nat.le_refl _)
  intro n
  induction n with
  | zero =>
    intro k hk j h1 h2
    rw [endOf_end (by omega)] at h2
    omega
  | succ n ih =>
    intro k hk j h1 h2
    by_cases hks : k < s.size
    · cases hf : f (byte s k) with
      | true =>
        by_cases hj : j = k
        · rw [hj]
          exact hf
        · exact ih (k + 1) (by omega) j (by omega) (by rw [endOf_yes hks hf]; exact h2)
      | false =>
        rw [endOf_no hks hf] at h2
        omega
    · rw [endOf_end (by omega)] at h2
      omega
theorem rs_nl : ∀ x ∈ rsL, ∀ c ∈ x.data.toList, c ≠ 10 := by decide
theorem byte_ext {s : ByteArray} {k n i : Nat} (h : k + n ≤ s.size) (hi : i < n) : byte s (k + i) ∈ (s.extract k (k + n)).data.toList := by
  have e : (s.extract k (k + n)).data.toList = (s.data.toList.drop k).take n := by
    rw [ByteArray.data_extract, Array.toList_extract, List.extract_eq_take_drop]
    congr 1
    omega
  rw [e]
  have hl : i < ((s.data.toList.drop k).take n).length := by
    rw [List.length_take, List.length_drop, size_list]
    omega
  have h2 : ((s.data.toList.drop k).take n)[i] = byte s (k + i) := by
    unfold byte
    rw [List.getElem_take, List.getElem_drop, List.getD_eq_getElem?_getD, List.getElem?_eq_getElem (by rw [size_list]; omega)]
    rfl
  rw [← h2]
  exact List.getElem_mem hl
theorem sgnF_sg {s : ByteArray} {k : Nat} : ∀ m, sgnF s k m ≠ 0 → isSg (s.extract k (k + sgnF s k m)).data.toList = true
  | 0, h => absurd rfl h
  | m + 1, h => by
    unfold sgnF at h ⊢
    split
    · assumption
    · rename_i hn
      rw [if_neg hn] at h
      exact sgnF_sg m h
/-- In a word there is no new line. -/
theorem word_nl {s : ByteArray} {k : Nat} (hk : k < s.size) (j : Nat) (h1 : k ≤ j) (h2 : j < wEnd s k) : byte s j ≠ 10 := by
  unfold wEnd at h2
  intro e
  split at h2
  · have := endOf_mem j h1 h2
    rw [e] at this
    cases this
  · split at h2
    · have := endOf_mem j h1 h2
      rw [e] at this
      cases this
    · have h0 : sgnF s k (min 2 (s.size - k)) ≠ 0 := by omega
      have hle := sgnF_le s k (min 2 (s.size - k))
      obtain ⟨x, hx, he⟩ := (isSg_iff _).1 (sgnF_sg _ h0)
      have hm := byte_ext (s := s) (k := k) (n := sgnF s k (min 2 (s.size - k))) (i := j - k) (by omega) (by omega)
      rw [← he] at hm
      exact rs_nl x hx _ hm (by rw [show k + (j - k) = j by omega]; exact e)
end Go.Proofs.YtinfocnihngbiaaDoor
