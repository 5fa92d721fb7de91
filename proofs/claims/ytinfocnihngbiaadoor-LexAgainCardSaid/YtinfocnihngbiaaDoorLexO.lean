/- What both Lex leave, read as a slice of words. Asked: strconv's ErrRange is laid. -/
import Derived.Test.YtinfocnihngbiaaDoorLexD
namespace Go.Proofs.YtinfocnihngbiaaDoor
open Go.RowKit

theorem wds_of {B : Nat} {w' : World} {v : Value} {l : List Wd} (h : w'.ownsRow B 39 5 v l.length (l.flatMap Wd.cells)) : Wds w' (match v with | .slice a _ _ => a | _ => none) l := by
  intro i hi
  have hlen : ∀ l : List Wd, (l.flatMap Wd.cells).length = l.length * 5 := fun l => by
    induction l with
    | nil => rfl
    | cons t r ih =>
      rw [List.flatMap_cons, List.length_append, ih, List.length_cons]
      simp [Wd.cells]
      omega
  have hat : ∀ (l : List Wd) (i : Nat), i < l.length → ∀ j, j < 5 → (l.flatMap Wd.cells)[i * 5 + j]? = (l.getD i default).cells[j]? := by
    intro l
    induction l with
    | nil => intro i hi; cases hi
    | cons t r ih =>
      intro i hi j hj
      rw [List.flatMap_cons]
      cases i with
      | zero =>
        rw [List.getElem?_append_left (by simp [Wd.cells]; omega)]
        simp
      | succ i =>
        rw [List.getElem?_append_right (by simp [Wd.cells]; omega)]
        have h5 : t.cells.length = 5 := rfl
        rw [h5, show (i + 1) * 5 + j - 5 = i * 5 + j by omega]
        exact ih i (by simpa using hi) j hj
  rcases h.2 with ⟨_, h0⟩ | ⟨g, cap, cur, rfl, _⟩
  · omega
  · have hc := fun j hj => (h.cells (g := g) rfl) (i * 5 + j) _ (((hat l i hi j hj).trans (List.getElem?_eq_getElem (show j < (l.getD i default).cells.length from hj))))
    have hadd : ∀ j, (⟨g, 0, none⟩ : Addr).add j = ⟨g, 0 + j, none⟩ := fun j => by unfold Addr.add; split <;> simp_all
    simp only [hadd] at hc
    exact ⟨g, 0, rfl, hc 0 (by decide), hc 1 (by decide), hc 2 (by decide), hc 3 (by decide), hc 4 (by decide)⟩

/-- A slice of words lies. -/
structure LOut (l : List Wd) (a : Option Addr) (cap : Nat) (w' : World) : Prop where
  wds : Wds w' a l
  lc : l.length ≤ cap
  mx : cap ≤ maxLen
theorem Wds.below {w w' : World} {B : Nat} {a : Option Addr} {l : List Wd} (h : Wds w a l) (hb : Below B w w') (hB : w.heap.size ≤ B) : Wds w' a l := by
  intro i hi
  obtain ⟨b, off, rfl, h0, h1, h2, h3, h4⟩ := h i hi
  have hlt := World.block_lt_of_cell? w _ h0
  have hc := fun o => hb.cell (p := ⟨b, o, none⟩) (Nat.lt_of_lt_of_le hlt hB)
  exact ⟨b, off, rfl, (hc _).trans h0, (hc _).trans h1, (hc _).trans h2, (hc _).trans h3, (hc _).trans h4⟩
theorem LOut.below {w w' : World} {l : List Wd} {a : Option Addr} {cap : Nat} (h : LOut l a cap w) (hb : Below w.heap.size w w') : LOut l a cap w' := ⟨h.wds.below hb (Nat.le_refl _), h.lc, h.mx⟩
theorem Wds.alloc {w : World} {a : Option Addr} {l : List Wd} (h : Wds w a l) (o : Obj) : Wds (w.alloc o) a l := h.below ((Below.refl _ w).alloc (Nat.le_refl _) o) (Nat.le_refl _)
/-- What Lex leaves, said of a slice. -/
def LRes (w : World) (R : List Wd × (Int × Int) × Int) (e : Ending) (w' : World) : Prop :=
  ∃ a cap, e = .returned (.tuple #[.slice a R.1.length cap, .agg #[.int .i64 R.2.1.1, .int .i64 R.2.1.2], .int .i64 R.2.2]) ∧ LOut R.1 a cap w' ∧ Below w.heap.size w w'
theorem LPost.res {w w' : World} {R : List Wd × (Int × Int) × Int} {e : Ending} (h : LPost w R e w') : LRes w R e w' := by
  obtain ⟨v, rfl, hown, hb⟩ := h
  have hw := wds_of hown
  rcases hown.2 with ⟨rfl, h0⟩ | ⟨g, cap, cur, rfl, _, _, h1, h2, _⟩
  · exact ⟨none, 0, by rw [h0], ⟨hw, by omega, Nat.zero_le _⟩, hb⟩
  · exact ⟨some ⟨g, 0, none⟩, cap, rfl, ⟨hw, h1, h2⟩, hb⟩
theorem lex_out (s : ByteArray) (w : World) (hE : ErrR w) : Calls Tryd.prog 11 #[.string s] w (LRes w (lexR s)) := (lex_any s w hE).mono fun _ _ h => h.res
theorem rlex_out (s : ByteArray) (w : World) : Calls Tryd.prog 12 #[.string s] w (LRes w (lexR s)) := (rlex_any s w).mono fun _ _ h => h.res
theorem lexA_len {s : ByteArray} : ∀ n k acc, s.size - k ≤ n → acc.length ≤ k → k ≤ s.size → (lexA s k acc).1.length ≤ s.size := by
  intro n
  induction n with
  | zero =>
    intro k acc hn h1 h2
    rw [lexA_end (by have := gap_ge s k; omega)]
    exact Nat.le_trans h1 h2
  | succ n ih =>
    intro k acc hn h1 h2
    by_cases h : gapAt s k < s.size
    · by_cases he : wErr s (gapAt s k) = 0
      · have h3 := lex_dec h he
        have h4 := wEnd_gt h he
        have h5 := wEnd_le h
        have h6 := gap_ge s k
        rw [← lexA_on h he]
        exact ih _ _ (by omega) (by simp; omega) h5
      · rw [lexA_err h he]
        exact Nat.zero_le _
    · rw [lexA_end h]
      exact Nat.le_trans h1 h2
theorem lexR_len (s : ByteArray) : (lexR s).1.length ≤ 65536 := by
  unfold lexR
  split
  · exact Nat.zero_le _
  · exact Nat.le_trans (lexA_len _ 0 [] (Nat.le_refl _) (Nat.le_refl _) (Nat.zero_le _)) (by omega)
theorem wdE_refl (t : Wd) : wdE t t = true := by simp [wdE]
theorem wdsE_refl (l : List Wd) : wdsE l l = true := by simp [wdsE, wdE_refl]
theorem eqp_any (x y x' y' : Int) (w : World) : (Op.equalIn 10000 25 (.agg #[.int .i64 x, .int .i64 y]) (.agg #[.int .i64 x', .int .i64 y'])).run Tryd.prog w = .ok (x == x' && y == y') w := eqp_run 9998 x y x' y' w
end Go.Proofs.YtinfocnihngbiaaDoor
