/- Words stand in the text at their places, which rise, and with a blank between they are lexed as the same words. Asked: strconv's ErrRange is laid. -/
import Derived.Test.YtinfocnihngbiaaDoorAt
import Derived.Test.YtinfocnihngbiaaDoorLawA
import Derived.IntWalk
namespace Go.Proofs.YtinfocnihngbiaaDoor
open Go.RowKit

theorem lexA_nil {s : ByteArray} : ∀ n k acc, s.size - k ≤ n → (lexA s k acc).2.2 ≠ 0 → (lexA s k acc).1 = [] := by
  intro n
  induction n with
  | zero =>
    intro k acc hn h
    have h0 : ¬ gapAt s k < s.size := by have := gap_ge s k; omega
    rw [lexA_end h0] at h
    exact absurd rfl h
  | succ n ih =>
    intro k acc hn h
    by_cases hg : gapAt s k < s.size
    · by_cases he : wErr s (gapAt s k) = 0
      · have h3 := lex_dec hg he
        rw [← lexA_on hg he] at h ⊢
        exact ih _ _ (by omega) h
      · rw [lexA_err hg he]
    · rw [lexA_end hg] at h
      exact absurd rfl h
/-- Behind a word is taken: the words still to come. -/
theorem Ch.step {s : ByteArray} {k : Nat} {l : List Wd} {j : Nat} (h : Ch s k (l.drop j)) (hj : j < l.length) :
    gapAt s k < s.size ∧ wErr s (gapAt s k) = 0 ∧ l.getD j default = tokW s (gapAt s k) ∧ Ch s (wEnd s (gapAt s k)) (l.drop (j + 1)) := by
  rw [List.drop_eq_getElem_cons hj] at h
  rw [List.getD, List.getElem?_eq_getElem hj]
  exact h
theorem Ch.good {s : ByteArray} : ∀ (l : List Wd) (k : Nat), Ch s k l → ∀ t ∈ l, Good t
  | [], _, _, t, ht => by cases ht
  | x :: r, k, ⟨h1, h2, h3, h4⟩, t, ht => by
    rcases List.mem_cons.1 ht with rfl | ht
    · rw [h3]
      exact tok_good h1 h2
    · exact Ch.good r _ h4 t ht
theorem take_sp {l : List Wd} {j : Nat} (hj : j < l.length) : (l.take (j + 1)).flatMap spW = (l.take j).flatMap spW ++ ((l.getD j default).text.data.toList ++ [32]) := by
  rw [List.take_succ_eq_append_getElem hj, List.flatMap_append, List.getD, List.getElem?_eq_getElem hj]
  simp [spW]
theorem cells_len (l : List Wd) : (l.flatMap Wd.cells).length = l.length * 5 := by
  induction l with
  | nil => rfl
  | cons t r ih =>
    rw [List.flatMap_cons, List.length_append, ih, List.length_cons]
    simp [Wd.cells]
    omega
theorem cells_set : ∀ (l : List Wd) (i : Nat) (x y : Int), i < l.length → ((l.flatMap Wd.cells).set (i * 5 + 3) (.int .i64 x)).set (i * 5 + 4) (.int .i64 y) = (l.set i { l.getD i default with line := x, col := y }).flatMap Wd.cells
  | [], i, _, _, h => by cases h
  | t :: r, 0, x, y, _ => by
    rw [List.flatMap_cons, List.set_cons_zero, List.flatMap_cons]
    rw [List.set_append_left _ _ (by simp [Wd.cells]), List.set_append_left _ _ (by simp [Wd.cells])]
    rfl
  | t :: r, i + 1, x, y, h => by
    rw [List.flatMap_cons, List.set_cons_succ, List.flatMap_cons]
    have h5 : t.cells.length = 5 := rfl
    rw [List.set_append_right _ _ (by rw [h5]; omega), List.set_append_right _ _ (by rw [h5]; omega), h5]
    rw [show (i + 1) * 5 + 3 - 5 = i * 5 + 3 by omega, show (i + 1) * 5 + 4 - 5 = i * 5 + 4 by omega]
    rw [cells_set r i x y (by simpa using h)]
    rfl
theorem same_list {a b : List Wd} (hl : a.length = b.length) (h : ∀ i, i < b.length → a.getD i default = b.getD i default) : a = b := by
  refine List.ext_getElem hl fun i h1 h2 => ?_
  have h3 := h i h2
  rw [List.getD, List.getElem?_eq_getElem h1, List.getD, List.getElem?_eq_getElem h2] at h3
  exact h3

/-- The second loop's own row: the words m, the first j of them with l's places. -/
structure Mix (B : Nat) (l : List Wd) (a : Option Addr) (cap j : Nat) (W : World) : Prop where
  ex : ∃ mm : List Wd, mm.length = l.length ∧ W.ownsRow B 39 5 (.slice a l.length cap) l.length (mm.flatMap Wd.cells) ∧ SamL mm l ∧ ∀ i, i < j → mm.getD i default = l.getD i default
theorem SamL.of_at : ∀ {m l : List Wd}, m.length = l.length → (∀ i, i < l.length → SamW (m.getD i default) (l.getD i default)) → SamL m l
  | [], [], _, _ => trivial
  | a :: m, b :: l, hl, h => ⟨h 0 (by simp), SamL.of_at (by simpa using hl) (fun i hi => h (i + 1) (by simpa using hi))⟩
  | [], b :: l, hl, _ => by simp at hl
  | a :: m, [], hl, _ => by simp at hl
theorem wgetD_set {l : List Wd} {i j : Nat} {x : Wd} (hi : i < l.length) : (l.set i x).getD j default = if i = j then x else l.getD j default := by
  rw [List.getD, List.getElem?_set]
  by_cases h : i = j
  · subst h
    simp [hi]
  · simp [h, List.getD]
theorem samw_set {a b : Wd} (h : SamW a b) : { a with line := b.line, col := b.col } = b := by
  cases a
  cases b
  obtain ⟨e1, e2, e3⟩ := h
  simp only at e1 e2 e3
  subst e1 e2 e3
  rfl
theorem Mix.step {B : Nat} {l : List Wd} {g cap j : Nat} {W : World} (h : Mix B l (some ⟨g, 0, none⟩) cap j W) (hj : j < l.length) :
    Mix B l (some ⟨g, 0, none⟩) cap (j + 1) ((W.setCell ⟨g, j * 5 + 3, none⟩ (.int .i64 (l.getD j default).line)).setCell ⟨g, j * 5 + 4, none⟩ (.int .i64 (l.getD j default).col)) ∧
    W.grownBy ((W.setCell ⟨g, j * 5 + 3, none⟩ (.int .i64 (l.getD j default).line)).setCell ⟨g, j * 5 + 4, none⟩ (.int .i64 (l.getD j default).col)) (some g) := by
  obtain ⟨mm, h1, h2, h3, h4⟩ := h.ex
  obtain ⟨o1, b1⟩ := h2.stored (j * 5 + 3) (.int .i64 (l.getD j default).line)
  obtain ⟨o2, b2⟩ := o1.stored (j * 5 + 4) (.int .i64 (l.getD j default).col)
  rw [cells_set mm j _ _ (by omega)] at o2
  refine ⟨⟨_, by rw [List.length_set]; exact h1, o2, SamL.of_at (by rw [List.length_set]; exact h1) (fun i hi => ?_), fun i hi => ?_⟩, ⟨rfl, rfl, rfl, by simp [World.setCell], fun k hk hne => (b2.block k (by simpa [World.setCell] using hk) hne).trans (b1.block k hk hne)⟩⟩
  · rw [wgetD_set (by omega)]
    split
    · rename_i h
      subst h
      exact h3.at j hj
    · exact h3.at i hi
  · rw [wgetD_set (by omega)]
    split
    · rename_i h
      subst h
      exact samw_set (h3.at j hj)
    · exact h4 i (by omega)
theorem Mix.cell {B : Nat} {l : List Wd} {g cap j : Nat} {W : World} (h : Mix B l (some ⟨g, 0, none⟩) cap j W) (i : Nat) (hi : i < l.length * 5) : ∃ v, W.cell? ⟨g, i, none⟩ = some v ∧ W.frozen? ⟨g, i, none⟩ = false := by
  obtain ⟨mm, h1, h2, h3, h4⟩ := h.ex
  have hc := h2.cellAt i hi
  have hlt : i < (mm.flatMap Wd.cells).length := by rw [cells_len, h1]; exact hi
  rw [List.getElem?_eq_getElem hlt] at hc
  exact ⟨_, hc, h2.frozenAt i⟩
theorem Wds.grown {w w' : World} {row : Nat} {a : Option Addr} {l : List Wd} (h : Wds w a l) (hg : w.grownBy w' (some row)) (hne : ∀ b off, a = some ⟨b, off, none⟩ → b ≠ row) : Wds w' a l := by
  intro i hi
  obtain ⟨b, off, rfl, h0, h1, h2, h3, h4⟩ := h i hi
  have hn : some b ≠ some row := fun e => hne b off rfl (Option.some.inj e)
  exact ⟨b, off, rfl, hg.cell (a := ⟨b, _, none⟩) h0 hn, hg.cell (a := ⟨b, _, none⟩) h1 hn, hg.cell (a := ⟨b, _, none⟩) h2 hn, hg.cell (a := ⟨b, _, none⟩) h3 hn, hg.cell (a := ⟨b, _, none⟩) h4 hn⟩
theorem not_empty {T : ByteArray} (h : 0 < T.size) : (T.toList == ByteArray.toList ⟨#[]⟩) = false ∧ ¬ T.toList = [] ∧ T.toList.isEmpty = false ∧ (T.toList == []) = false := by
  have h1 : (T.toList == ByteArray.toList ⟨#[]⟩) = false := by
    rw [Lib.bytes_beq_false_iff]
    intro e
    rw [e] at h
    cases h
  have h2 : ¬ T.toList = [] := by
    intro e
    rw [beq_eq_false_iff_ne] at h1
    apply h1
    rw [e, empty_list]
  refine ⟨h1, h2, ?_, ?_⟩
  · cases hl : T.toList with
    | nil => exact absurd hl h2
    | cons a l => rfl
  · cases hl : T.toList with
    | nil => exact absurd hl h2
    | cons a l => rfl
end Go.Proofs.YtinfocnihngbiaaDoor
