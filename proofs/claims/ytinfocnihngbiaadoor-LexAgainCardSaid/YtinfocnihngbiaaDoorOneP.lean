/- The document's word and the program's are one: the digits, the signs. No condition but that a byte is there. -/
import Derived.Test.YtinfocnihngbiaaDoorNumEq
import Derived.Test.YtinfocnihngbiaaDoorRsigns
import Derived.Test.YtinfocnihngbiaaDoorWord4
namespace Go.Proofs.YtinfocnihngbiaaDoor
open Go.RowKit

theorem tw_dig (L : List UInt8) : (((L.drop (L.takeWhile isDig).length).head?.any isLet) = true → (L.takeWhile isAny).all isDig = false) ∧
    (((L.drop (L.takeWhile isDig).length).head?.any isLet) = false → L.takeWhile isAny = L.takeWhile isDig) := by
  induction L with
  | nil => exact ⟨(fun h => by cases h), fun _ => rfl⟩
  | cons c r ih =>
    cases hd : isDig c with
    | true =>
      have ha : isAny c = true := by unfold isAny; rw [hd]; simp
      rw [List.takeWhile_cons_of_pos hd, List.takeWhile_cons_of_pos ha]
      simp only [List.length_cons, List.drop_succ_cons, List.all_cons, hd, Bool.true_and]
      exact ⟨ih.1, fun h => by rw [ih.2 h]⟩
    | false =>
      rw [List.takeWhile_cons_of_neg (by rw [hd]; decide)]
      simp only [List.length_nil, List.drop_zero, List.head?_cons, Option.any_some]
      cases hl : isLet c with
      | true =>
        have ha : isAny c = true := by unfold isAny; rw [hl]; simp
        rw [List.takeWhile_cons_of_pos ha]
        exact ⟨fun _ => by simp [hd], fun h => by cases h⟩
      | false =>
        have ha : isAny c = false := by unfold isAny; rw [hl, hd]; rfl
        rw [List.takeWhile_cons_of_neg (by rw [ha]; decide)]
        exact ⟨(fun h => by cases h), fun _ => rfl⟩
theorem next_let (s : ByteArray) (e : Nat) : (decide (e < s.size) && isLet (byte s e)) = ((s.data.toList.drop e).head?.any isLet) := by
  by_cases h : e < s.size
  · rw [drop_byte h, decide_eq_true h]
    simp
  · rw [decide_eq_false h, List.drop_eq_nil_of_le (by rw [size_list]; omega)]
    rfl
/-- What the document's number makes of the run at a digit. -/
theorem dig_law {s : ByteArray} {k : Nat} (hk : k < s.size) (hd : isDig (byte s k) = true) :
    (rnumP (s.extract k (endOf isAny s k)).data.toList).2 = !badP s k ∧
    (badP s k = false → endOf isAny s k = endOf isDig s k ∧ (rnumP (s.extract k (endOf isAny s k)).data.toList).1 = (numP (s.extract k (endOf isDig s k)).data.toList).1) := by
  have ht := tw_dig (s.data.toList.drop k)
  have hn := next_let s (endOf isDig s k)
  have hde : s.data.toList.drop (endOf isDig s k) = (s.data.toList.drop k).drop ((s.data.toList.drop k).takeWhile isDig).length := by
    rw [List.drop_drop]
    rfl
  rw [hde] at hn
  unfold badP
  rw [hn, extract_while, extract_while]
  have hend : ∀ f, endOf f s k = k + ((s.data.toList.drop k).takeWhile f).length := fun _ => rfl
  rw [hend, hend]
  obtain ⟨q, hq⟩ : ∃ q, ((s.data.toList.drop k).drop ((s.data.toList.drop k).takeWhile isDig).length).head?.any isLet = q := ⟨_, rfl⟩
  rw [hq] at ht ⊢
  cases q with
  | true =>
    have h1 := ht.1 rfl
    have e2 : rnumP ((s.data.toList.drop k).takeWhile isAny) = (0, false) := if_neg (by rw [h1]; simp)
    rw [e2]
    exact ⟨by simp, fun h => by simp at h⟩
  | false =>
    rw [ht.2 rfl]
    have hall : ∀ x ∈ (s.data.toList.drop k).takeWhile isDig, isDig x = true := List.all_eq_true.1 List.all_takeWhile
    have hc : (s.data.toList.drop k).takeWhile isDig = byte s k :: (s.data.toList.drop (k + 1)).takeWhile isDig := by
      rw [drop_byte hk, List.takeWhile_cons_of_pos hd]
    rw [hc] at hall ⊢
    have h2 := num_same hall
    rw [h2.1]
    refine ⟨by simp, fun h => ⟨rfl, h2.2 (by simpa using h)⟩⟩

/-- The signs of two bytes, of one. -/
def rs2 : List ByteArray := rsL.take 5
def rs1 : List ByteArray := rsL.drop 5
theorem rs_parts : rsL = rs2 ++ rs1 := (List.take_append_drop 5 rsL).symm
theorem rs2_size : ∀ x ∈ rs2, x.size = 2 := by decide
theorem rs1_size : ∀ x ∈ rs1, x.size = 1 := by decide
theorem rs_sg : ∀ x ∈ rsL.map (fun x => x.data.toList), x ∈ sgL.map (fun x => x.data.toList) := by decide
theorem sg_rs : ∀ x ∈ sgL.map (fun x => x.data.toList), x ∈ rsL.map (fun x => x.data.toList) := by decide
theorem isSg_iff (t : List UInt8) : isSg t = true ↔ ∃ x ∈ rsL, x.data.toList = t := by
  unfold isSg
  rw [List.any_eq_true]
  constructor
  · rintro ⟨x, hx, h⟩
    have h2 : t ∈ sgL.map (fun x => x.data.toList) := List.mem_map.2 ⟨x, hx, by simpa using h⟩
    exact List.mem_map.1 (sg_rs t h2)
  · rintro ⟨x, hx, h⟩
    obtain ⟨y, hy, h2⟩ := List.mem_map.1 (rs_sg t (List.mem_map.2 ⟨x, hx, h⟩))
    exact ⟨y, hy, by rw [h2]; exact beq_self_eq_true _⟩
/-- Does a sign stand at byte k? -/
def mt (s : ByteArray) (k : Nat) (x : ByteArray) : Bool := decide (k + x.size ≤ s.size) && (s.extract k (k + x.size)).data.toList == x.data.toList
theorem extract_len {s : ByteArray} {k n : Nat} (h : k + n ≤ s.size) : (s.extract k (k + n)).data.toList.length = n := by
  rw [size_list, ByteArray.size_extract]
  omega
theorem find_in {p : ByteArray → Bool} {l : List ByteArray} {x : ByteArray} (hx : x ∈ l) (hp : p x = true) : ∃ y, l.find? p = some y ∧ y ∈ l ∧ p y = true := by
  cases h : l.find? p with
  | none => exact absurd hp (by simpa using List.find?_eq_none.1 h x hx)
  | some y => exact ⟨y, rfl, List.mem_of_find?_eq_some h, List.find?_some h⟩
theorem mt_eq {s : ByteArray} {k : Nat} {x : ByteArray} (h : mt s k x = true) : k + x.size ≤ s.size ∧ s.extract k (k + x.size) = x := by
  unfold mt at h
  simp only [Bool.and_eq_true, decide_eq_true_eq, beq_iff_eq] at h
  exact ⟨h.1, ByteArray.ext (Array.ext' h.2)⟩
/-- The sign that the document finds is the one that the program takes off. -/
theorem sgn_law {s : ByteArray} {k : Nat} (hk : k < s.size) :
    (sgnF s k (min 2 (s.size - k)) = 0 → rsL.find? (mt s k) = none) ∧
    (sgnF s k (min 2 (s.size - k)) ≠ 0 → rsL.find? (mt s k) = some (s.extract k (k + sgnF s k (min 2 (s.size - k)))) ∧ (s.extract k (k + sgnF s k (min 2 (s.size - k)))).size = sgnF s k (min 2 (s.size - k))) := by
  have one : ∀ n, n = 1 ∨ n = 2 → k + n ≤ s.size → isSg (s.extract k (k + n)).data.toList = true → ∃ x ∈ (if n = 2 then rs2 else rs1), mt s k x = true ∧ x = s.extract k (k + n) := by
    intro n hn hle h
    obtain ⟨x, hx, he⟩ := (isSg_iff _).1 h
    have hsz : x.size = n := by rw [← size_list, he, extract_len hle]
    have hx2 : x ∈ (if n = 2 then rs2 else rs1) := by
      rw [rs_parts, List.mem_append] at hx
      rcases hx with hx | hx
      · have := rs2_size x hx
        rw [if_pos (by omega)]
        exact hx
      · have := rs1_size x hx
        rw [if_neg (by omega)]
        exact hx
    refine ⟨x, hx2, ?_, ByteArray.ext (Array.ext' he)⟩
    unfold mt
    rw [hsz, he]
    simp [hle]
  have none_of : ∀ n, n = 1 ∨ n = 2 → (k + n ≤ s.size → isSg (s.extract k (k + n)).data.toList = false) → (if n = 2 then rs2 else rs1).find? (mt s k) = none := by
    intro n hn h
    rw [List.find?_eq_none]
    intro x hx hm
    have hsz : x.size = n := by
      rcases hn with rfl | rfl
      · exact rs1_size x hx
      · exact rs2_size x hx
    obtain ⟨h1, h2⟩ := mt_eq hm
    rw [hsz] at h1 h2
    have h3 := h h1
    have h4 : isSg (s.extract k (k + n)).data.toList = true := (isSg_iff _).2 ⟨x, by
      rw [rs_parts, List.mem_append]
      rcases hn with rfl | rfl
      · exact .inr hx
      · exact .inl hx, by rw [h2]⟩
    rw [h3] at h4
    cases h4
  have some_of : ∀ n, n = 1 ∨ n = 2 → k + n ≤ s.size → isSg (s.extract k (k + n)).data.toList = true → (if n = 2 then rs2 else rs1).find? (mt s k) = some (s.extract k (k + n)) := by
    intro n hn hle h
    obtain ⟨x, hx, hm, _⟩ := one n hn hle h
    obtain ⟨y, hy, hy2, hy3⟩ := find_in hx hm
    have hsz : y.size = n := by
      rcases hn with rfl | rfl
      · exact rs1_size y hy2
      · exact rs2_size y hy2
    rw [hy]
    have := (mt_eq hy3).2
    rw [hsz] at this
    rw [this]
  have sz : ∀ n, k + n ≤ s.size → (s.extract k (k + n)).size = n := fun n h => by rw [ByteArray.size_extract]; omega
  rw [rs_parts, List.find?_append]
  by_cases h2 : 2 ≤ s.size - k
  · rw [show min 2 (s.size - k) = 2 by omega]
    unfold sgnF
    cases hg2 : isSg (s.extract k (k + (1 + 1))).data.toList with
    | true =>
      have e := some_of 2 (.inr rfl) (by omega) hg2
      rw [if_pos rfl] at e
      rw [e]
      simp only [if_true]
      exact ⟨(fun h => by cases h), fun _ => ⟨rfl, sz 2 (by omega)⟩⟩
    | false =>
      have e := none_of 2 (.inr rfl) (fun _ => hg2)
      rw [if_pos rfl] at e
      rw [e]
      simp only [Bool.false_eq_true, if_false, Option.none_or]
      unfold sgnF
      cases hg1 : isSg (s.extract k (k + (0 + 1))).data.toList with
      | true =>
        have e1 := some_of 1 (.inl rfl) (by omega) hg1
        rw [if_neg (by decide)] at e1
        rw [e1]
        simp only [if_true]
        exact ⟨(fun h => by cases h), fun _ => ⟨trivial, sz 1 (by omega)⟩⟩
      | false =>
        have e1 := none_of 1 (.inl rfl) (fun _ => hg1)
        rw [if_neg (by decide)] at e1
        rw [e1]
        simp only [Bool.false_eq_true, if_false]
        exact ⟨fun _ => trivial, fun h => absurd rfl h⟩
  · rw [show min 2 (s.size - k) = 1 by omega]
    have e := none_of 2 (.inr rfl) (fun h => by omega)
    rw [if_pos rfl] at e
    rw [e]
    simp only [Option.none_or]
    unfold sgnF
    cases hg1 : isSg (s.extract k (k + (0 + 1))).data.toList with
    | true =>
      have e1 := some_of 1 (.inl rfl) (by omega) hg1
      rw [if_neg (by decide)] at e1
      rw [e1]
      simp only [if_true]
      exact ⟨(fun h => by cases h), fun _ => ⟨trivial, sz 1 (by omega)⟩⟩
    | false =>
      have e1 := none_of 1 (.inl rfl) (fun _ => hg1)
      rw [if_neg (by decide)] at e1
      rw [e1]
      simp only [Bool.false_eq_true, if_false]
      exact ⟨fun _ => trivial, fun h => absurd rfl h⟩
end Go.Proofs.YtinfocnihngbiaaDoor
