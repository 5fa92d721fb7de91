/- Words with a blank behind each are lexed as the same words: in plain lists. No condition. -/
import Derived.Test.YtinfocnihngbiaaDoorWordL
import Derived.Test.YtinfocnihngbiaaDoorLexO
namespace Go.Proofs.YtinfocnihngbiaaDoor
open Go.RowKit

/-- From byte k on the words are these, and no more. -/
def Ch (s : ByteArray) : Nat → List Wd → Prop
  | k, [] => ¬ gapAt s k < s.size
  | k, t :: r => gapAt s k < s.size ∧ wErr s (gapAt s k) = 0 ∧ t = tokW s (gapAt s k) ∧ Ch s (wEnd s (gapAt s k)) r
theorem Ch.to_lex {s : ByteArray} : ∀ (l : List Wd) (k : Nat) (acc : List Wd), Ch s k l → lexA s k acc = (acc ++ l, (0, 0), 0)
  | [], k, acc, h => by rw [lexA_end h, List.append_nil]
  | t :: r, k, acc, ⟨h1, h2, h3, h4⟩ => by
    rw [← lexA_on h1 h2, Ch.to_lex r _ _ h4, ← h3, List.append_assoc]
    rfl
theorem Ch.of_lex {s : ByteArray} : ∀ n k acc, s.size - k ≤ n → (lexA s k acc).2.2 = 0 → ∃ l, Ch s k l ∧ lexA s k acc = (acc ++ l, (0, 0), 0) := by
  intro n
  induction n with
  | zero =>
    intro k acc hn _
    have h : ¬ gapAt s k < s.size := by have := gap_ge s k; omega
    exact ⟨[], h, by rw [lexA_end h, List.append_nil]⟩
  | succ n ih =>
    intro k acc hn h0
    by_cases h : gapAt s k < s.size
    · by_cases he : wErr s (gapAt s k) = 0
      · have h3 := lex_dec h he
        rw [← lexA_on h he] at h0 ⊢
        obtain ⟨l, h4, h5⟩ := ih _ _ (by omega) h0
        exact ⟨tokW s (gapAt s k) :: l, ⟨h, he, rfl, h4⟩, by rw [h5, List.append_assoc]; rfl⟩
      · rw [lexA_err h he] at h0
        exact absurd h0 he
    · exact ⟨[], h, by rw [lexA_end h, List.append_nil]⟩
theorem Ch.gap {s : ByteArray} {k k' : Nat} (h : gapAt s k' = gapAt s k) : ∀ {l : List Wd}, Ch s k l → Ch s k' l
  | [], hc => by unfold Ch at hc ⊢; rw [h]; exact hc
  | t :: r, hc => by unfold Ch at hc ⊢; rw [h]; exact hc

/-- A word that may be lexed again: it is what some bytes begin with. -/
def Good (t : Wd) : Prop := ∃ L, L ≠ [] ∧ wordL L = (t.kind, t.text.size, t.num, 0) ∧ t.text.data.toList = L.take t.text.size
theorem tok_good {s : ByteArray} {p : Nat} (hp : p < s.size) (he : wErr s p = 0) : Good (tokW s p) := by
  obtain ⟨h1, h2, h3, h4⟩ := word_list hp
  have hle := wEnd_le hp
  have hsz : (tokW s p).text.size = (wordL (s.data.toList.drop p)).2.1 := by
    show (s.extract p (wEnd s p)).size = _
    rw [ByteArray.size_extract]
    omega
  refine ⟨s.data.toList.drop p, by rw [drop_byte hp]; simp, ?_, ?_⟩
  · rw [hsz]
    show _ = (wKind s p, _, wNum s p, 0)
    rw [h1, h3, ← he, h4]
  · rw [hsz]
    show (s.extract p (wEnd s p)).data.toList = _
    rw [h2, ext_take]
/-- A word's bytes with a blank behind. -/
def spW (t : Wd) : List UInt8 := t.text.data.toList ++ [32]
theorem good_pos {t : Wd} (h : Good t) : 0 < t.text.size := by
  obtain ⟨L, hL, hw, _⟩ := h
  match L, hL with
  | c :: q, _ =>
    have h2 : (wordL (c :: q)).2.1 = t.text.size := by rw [hw]
    have h4 : (wordL (c :: q)).2.2.2 = 0 := by rw [hw]
    rw [← h2]
    unfold wordL at h4 ⊢
    split
    · rename_i hc
      rw [List.takeWhile_cons_of_pos (let_any (show isLet c = true from hc))]
      exact Nat.succ_pos _
    · split
      · rename_i hd
        rw [List.takeWhile_cons_of_pos (show isDig c = true from hd)]
        exact Nat.succ_pos _
      · rename_i hc hd
        rw [if_neg hc, if_neg hd] at h4
        simp only at h4 ⊢
        have : sgnL (c :: q) ≠ 0 := fun h => by rw [h] at h4; cases h4
        omega
/-- The first byte of a word is no blank and no '#'. -/
theorem good_head {t : Wd} (h : Good t) : isBl (t.text.data.toList.headD 0) = false ∧ ¬ (t.text.data.toList.headD 0).toNat = 35 := by
  have hpos := good_pos h
  obtain ⟨L, hL, hw, ht⟩ := h
  have hh : t.text.data.toList.headD 0 = L.headD 0 := by
    rw [ht]
    match L, hL with
    | c :: q, _ =>
      obtain ⟨m, hm⟩ : ∃ m, t.text.size = m + 1 := ⟨t.text.size - 1, by omega⟩
      rw [hm]
      rfl
  rw [hh]
  match L, hL with
  | c :: q, _ =>
    show isBl c = false ∧ ¬ c.toNat = 35
    have h4 : (wordL (c :: q)).2.2.2 = 0 := by rw [hw]
    have hn : (wordL (c :: q)).2.1 = t.text.size := by rw [hw]
    cases hc : isLet c with
    | true =>
      unfold isLet at hc
      simp only [Bool.and_eq_true, decide_eq_true_eq] at hc
      unfold isBl
      simp only [Bool.or_eq_false_iff, beq_eq_false_iff_ne]
      omega
    | false =>
      cases hd : isDig c with
      | true =>
        unfold isDig at hd
        simp only [Bool.and_eq_true, decide_eq_true_eq] at hd
        unfold isBl
        simp only [Bool.or_eq_false_iff, beq_eq_false_iff_ne]
        omega
      | false =>
        have e : wordL (c :: q) = (4, sgnL (c :: q), 0, if sgnL (c :: q) = 0 then 110 else 0) := by
          unfold wordL
          rw [if_neg (show ¬ isLet ((c :: q).headD 0) = true by show ¬ isLet c = true; rw [hc]; decide), if_neg (show ¬ isDig ((c :: q).headD 0) = true by show ¬ isDig c = true; rw [hd]; decide)]
        have hex : ∃ x ∈ rsL, c ∈ x.data.toList := by
          rw [e] at h4
          simp only at h4
          have h0 : sgnL (c :: q) ≠ 0 := fun h => by rw [h] at h4; cases h4
          unfold sgnL at h0
          split at h0
          · rename_i h2
            obtain ⟨x, hx, he⟩ := (isSg_iff _).1 h2.2
            exact ⟨x, hx, by rw [he]; simp⟩
          · split at h0
            · rename_i h2
              obtain ⟨x, hx, he⟩ := (isSg_iff _).1 h2
              exact ⟨x, hx, by rw [he]; simp⟩
            · exact absurd rfl h0
        obtain ⟨x, hx, hm⟩ := hex
        have h5 := rs_32 x hx c hm
        refine ⟨h5.2.2, fun h => h5.2.1 ?_⟩
        exact UInt8.toNat_inj.1 (by simpa using h)
/-- The same but for its place. -/
def SamW (a b : Wd) : Prop := a.kind = b.kind ∧ a.text = b.text ∧ a.num = b.num
def SamL : List Wd → List Wd → Prop
  | [], [] => True
  | a :: m, b :: l => SamW a b ∧ SamL m l
  | _, _ => False
theorem SamL.len : ∀ {m l : List Wd}, SamL m l → m.length = l.length
  | [], [], _ => rfl
  | _ :: m, _ :: l, h => by rw [List.length_cons, List.length_cons, SamL.len h.2]
theorem SamL.at : ∀ {m l : List Wd} (_ : SamL m l) (i : Nat), i < l.length → SamW (m.getD i default) (l.getD i default)
  | [], [], _, i, hi => by cases hi
  | _ :: m, _ :: l, h, 0, _ => h.1
  | _ :: m, _ :: l, h, i + 1, hi => SamL.at h.2 i (by simpa using hi)
theorem relex {s : ByteArray} : ∀ (l : List Wd) (k : Nat), (∀ t ∈ l, Good t) → s.data.toList.drop k = l.flatMap spW → ∃ m, Ch s k m ∧ SamL m l
  | [], k, _, hd => by
    have hk : s.size ≤ k := by
      have := congrArg List.length hd
      rw [List.length_drop, size_list] at this
      simp at this
      omega
    refine ⟨[], ?_, trivial⟩
    unfold Ch
    rw [gap_out hk]
    omega
  | t :: r, k, hg, hd => by
    have hgt := hg t (List.mem_cons_self ..)
    have hpos := good_pos hgt
    obtain ⟨hb, h35⟩ := good_head hgt
    have hd2 : s.data.toList.drop k = t.text.data.toList ++ 32 :: r.flatMap spW := by
      rw [hd, List.flatMap_cons]
      unfold spW
      rw [List.append_assoc]
      rfl
    have htl : t.text.data.toList.length = t.text.size := size_list _
    have hk : k + t.text.size < s.size := by
      have := congrArg List.length hd2
      rw [List.length_drop, size_list, List.length_append, htl, List.length_cons] at this
      omega
    have hbk : byte s k = t.text.data.toList.headD 0 := by
      rw [← head_byte (by omega), hd2]
      match h : t.text.data.toList with
      | [] => rw [h] at htl; simp at htl; omega
      | c :: q => rfl
    have hga : gapAt s k = k := gap_at (by omega) (by rw [hbk]; exact hb) (by rw [hbk]; exact h35)
    obtain ⟨L, hL, hw, ht⟩ := hgt
    have hwd : wordL (s.data.toList.drop k) = (t.kind, t.text.size, t.num, 0) := by
      have h2 := word_again hL (by rw [hw]) (r.flatMap spW)
      rw [hd2, ht]
      rw [hw] at h2
      exact h2
    obtain ⟨w1, w2, w3, w4⟩ := word_list (s := s) (k := k) (by omega)
    rw [hwd] at w1 w2 w3 w4
    simp only at w1 w2 w3 w4
    have hdr : s.data.toList.drop (k + t.text.size + 1) = r.flatMap spW := by
      rw [show k + t.text.size + 1 = k + (t.text.size + 1) by omega, ← List.drop_drop, hd2, ← htl, List.drop_append, List.drop_eq_nil_of_le (by omega), List.nil_append]
      rw [show t.text.data.toList.length + 1 - t.text.data.toList.length = 1 by omega]
      rfl
    obtain ⟨m, hm, hf⟩ := relex r (k + t.text.size + 1) (fun x hx => hg x (List.mem_cons_of_mem _ hx)) hdr
    have h32 : byte s (k + t.text.size) = 32 := by
      rw [← head_byte hk, ← List.drop_drop, hd2, ← htl, List.drop_left]
      rfl
    have hgb : gapAt s (k + t.text.size + 1) = gapAt s (k + t.text.size) := gap_bl hk (by rw [h32]; decide)
    have hc := hm.gap hgb.symm
    refine ⟨tokW s k :: m, ?_, ⟨w1, ?_, w3⟩, hf⟩
    · unfold Ch
      rw [hga]
      exact ⟨by omega, w4, rfl, by rw [w2]; exact hc⟩
    · show s.extract k (wEnd s k) = t.text
      rw [w2]
      refine ByteArray.ext (Array.ext' ?_)
      rw [ext_take, hd2, ← htl, List.take_left]

/-! ### Places rise -/
def ltP (p q : Int × Int) : Prop := p.1 < q.1 ∨ (p.1 = q.1 ∧ p.2 < q.2)
theorem posAt_lt (s : ByteArray) (j : Nat) : ∀ d, ltP (posAt s j) (posAt s (j + d + 1)) := by
  have step : ∀ k, ltP (posAt s k) (posAt s (k + 1)) := fun k => by
    show ltP (posAt s k) (adv (posAt s k) (byte s k))
    unfold adv ltP
    split
    · exact .inl (by simp only []; omega)
    · exact .inr ⟨rfl, by simp only []; omega⟩
  intro d
  induction d with
  | zero => exact step j
  | succ d ih =>
    have h := step (j + d + 1)
    unfold ltP at ih h ⊢
    rw [show j + (d + 1) + 1 = j + d + 1 + 1 from rfl]
    omega
theorem posAt_ne {s : ByteArray} {j k : Nat} (h : j < k) : ¬ ((posAt s j).1 = (posAt s k).1 ∧ (posAt s j).2 = (posAt s k).2) := by
  have h2 := posAt_lt s j (k - j - 1)
  rw [show j + (k - j - 1) + 1 = k by omega] at h2
  unfold ltP at h2
  omega
end Go.Proofs.YtinfocnihngbiaaDoor
