/- Lists of clocks in memory: a row of them in a block, one read, one written; a watch. No condition. -/
import Derived.Test.YtnalpladieoegaaDoorBase
import Derived.Maps.AppendAt
namespace Go.Proofs.YtnalpladieoegaaDoor
open Go.RowKit Go.Shelf

/-- The cells of a list of clocks, one behind the other. -/
def flat (l : List Ck) : List Value := l.flatMap fun c => (cl c).toList
theorem flat_nil : flat [] = [] := rfl
theorem flat_cons (c : Ck) (l : List Ck) : flat (c :: l) = (cl c).toList ++ flat l := rfl
theorem flat_append (l m : List Ck) : flat (l ++ m) = flat l ++ flat m := by simp [flat]
theorem flat_length (l : List Ck) : (flat l).length = l.length * 8 := by
  induction l with
  | nil => rfl
  | cons c l ih => rw [flat_cons, List.length_append, ih]; simp; omega
/-- The clock in which all parts are 0. -/
def z0 : Ck := fun _ => 0
/-- Clock number i of a list. -/
def at_ (l : List Ck) (i : Nat) : Ck := (l[i]?).getD z0
theorem flat_get (l : List Ck) {i j : Nat} (hi : i < l.length) (hj : j < 8) : (flat l)[i * 8 + j]? = some (.int .i64 (at_ l i j)) := by
  induction l generalizing i with
  | nil => simp at hi
  | cons c l ih =>
    rw [flat_cons]
    cases i with
    | zero =>
      rw [List.getElem?_append_left (by simpa using hj)]
      have := cl_get c hj
      simpa [at_] using this
    | succ i =>
      rw [List.getElem?_append_right (by simp; omega)]
      have hsub : (i + 1) * 8 + j - (cl c).toList.length = i * 8 + j := by simp; omega
      rw [hsub, ih (by simpa using hi)]
      simp [at_]
theorem flat_set (l : List Ck) {i : Nat} (hi : i < l.length) {j : Nat} (hj : j < 8) (x : Int) : (flat l).set (i * 8 + j) (.int .i64 x) = flat (l.set i (upd (at_ l i) j x)) := by
  induction l generalizing i with
  | nil => simp at hi
  | cons c l ih =>
    cases i with
    | zero =>
      rw [flat_cons, List.set_append_left _ _ (by simpa using hj)]
      have h := congrArg Array.toList (cl_set c hj x)
      rw [Array.toList_setIfInBounds] at h
      simp only [Nat.zero_mul, Nat.zero_add, List.set_cons_zero, flat_cons]
      rw [h]
      simp [at_]
    | succ i =>
      rw [flat_cons, List.set_append_right _ _ (by simp; omega)]
      have hsub : (i + 1) * 8 + j - (cl c).toList.length = i * 8 + j := by simp; omega
      rw [hsub, ih (by simpa using hi)]
      simp [flat_cons, at_]

/-- Block b holds the list of clocks l alone. -/
def Row (w : World) (b : Nat) (t : TypeId) (l : List Ck) : Prop := w.heap[b]? = some (.cells (flat l).toArray t (0, 0))
theorem Row.lt {w : World} {b : Nat} {t : TypeId} {l : List Ck} (h : Row w b t l) : b < w.heap.size := (Array.getElem?_eq_some_iff.1 h).1
theorem Row.cell {w : World} {b : Nat} {t : TypeId} {l : List Ck} (h : Row w b t l) {i j : Nat} (hi : i < l.length) (hj : j < 8) : w.cell? ⟨b, i * 8 + j, none⟩ = some (.int .i64 (at_ l i j)) := by
  unfold Row at h
  simp only [World.cell?, h]
  simpa using flat_get l hi hj
theorem Row.frozen {w : World} {b : Nat} {t : TypeId} {l : List Ck} (h : Row w b t l) (k : Nat) : w.frozen? ⟨b, k, none⟩ = false := by
  unfold Row at h
  simp [World.frozen?, h]
theorem Row.kept {w w' : World} {row : Option Nat} {b : Nat} {t : TypeId} {l : List Ck} (h : Row w b t l) (hg : w.grownBy w' row) (hne : some b ≠ row) : Row w' b t l := (hg.block b h.lt hne).trans h
theorem Row.alloc {w : World} {b : Nat} {t : TypeId} {l : List Ck} (h : Row w b t l) (o : Obj) : Row (w.alloc o) b t l := h.kept (World.grownBy_alloc w o none) (by simp)
theorem Row.below {w w' : World} {B b : Nat} {t : TypeId} {l : List Ck} (h : Row w b t l) (hb : Below B w w') (hlt : b < B) : Row w' b t l := (hb.block b hlt).trans h
theorem Row.other {w : World} {b b' : Nat} {t : TypeId} {l : List Ck} (h : Row w b t l) (hne : b ≠ b') (k : Nat) (u : Value) : Row (w.setCell ⟨b', k, none⟩ u) b t l := (Below.heap_setCell w ⟨b', k, none⟩ u b hne).trans h
theorem Row.set1 {w : World} {b : Nat} {t : TypeId} {l : List Ck} (h : Row w b t l) {i j : Nat} (hi : i < l.length) (hj : j < 8) (x : Int) : Row (w.setCell ⟨b, i * 8 + j, none⟩ (.int .i64 x)) b t (l.set i (upd (at_ l i) j x)) := by
  have hlt := h.lt
  have h' : w.heap[b] = .cells (flat l).toArray t (0, 0) := by
    unfold Row at h
    simpa [Array.getElem?_eq_getElem hlt] using h
  show (w.heap.modify b _)[b]? = _
  rw [Array.getElem?_eq_getElem (by simpa using hlt), Array.getElem_modify_self, h']
  simp only [Option.isSome_none, Bool.false_eq_true, if_false]
  rw [← flat_set l hi hj x, List.setIfInBounds_toArray]
theorem at_set (l : List Ck) {i : Nat} (hi : i < l.length) (c : Ck) : at_ (l.set i c) i = c := by simp [at_, hi]
theorem at_set_ne (l : List Ck) {i k : Nat} (h : i ≠ k) (c : Ck) : at_ (l.set i c) k = at_ l k := by simp [at_, h]
theorem set_set (l : List Ck) (i : Nat) (c d : Ck) : (l.set i c).set i d = l.set i d := by simp
/-- Two clocks are alike in their eight parts. -/
def Alk (c d : Ck) : Prop := ∀ i, i < 8 → c i = d i
theorem Alk.cl {c d : Ck} (h : Alk c d) : cl c = cl d := by
  unfold YtnalpladieoegaaDoor.cl
  rw [h 0 (by decide), h 1 (by decide), h 2 (by decide), h 3 (by decide), h 4 (by decide), h 5 (by decide), h 6 (by decide), h 7 (by decide)]
theorem flat_set_alk (l : List Ck) (i : Nat) {c d : Ck} (h : Alk c d) : flat (l.set i c) = flat (l.set i d) := by
  induction l generalizing i with
  | nil => rfl
  | cons a l ih =>
    cases i with
    | zero => exact congrArg (fun x => Array.toList x ++ flat l) h.cl
    | succ i => simp only [List.set_cons_succ, flat_cons]; rw [ih i]
abbrev sc (w : World) (b o : Nat) (x : Int) : World := w.setCell ⟨b, o, none⟩ (.int .i64 x)
/-- The eight cells of a clock stored, one behind the other. -/
abbrev st8 (w : World) (b o : Nat) (c : Ck) : World := sc (sc (sc (sc (sc (sc (sc (sc w b o (c 0)) b (o + 1) (c 1)) b (o + 2) (c 2)) b (o + 3) (c 3)) b (o + 4) (c 4)) b (o + 5) (c 5)) b (o + 6) (c 6)) b (o + 7) (c 7)
theorem Row.setN {w : World} {b : Nat} {t : TypeId} {l : List Ck} {i : Nat} {d : Ck} (h : Row w b t (l.set i d)) (hi : i < l.length) {j : Nat} (hj : j < 8) (x : Int) : Row (sc w b (i * 8 + j) x) b t (l.set i (upd d j x)) := by
  have h1 := h.set1 (i := i) (by simpa using hi) hj x
  rwa [set_set, at_set l hi] at h1
theorem Row.set8 {w : World} {b : Nat} {t : TypeId} {l : List Ck} (h : Row w b t l) {i : Nat} (hi : i < l.length) (c : Ck) : Row (st8 w b (i * 8) c) b t (l.set i c) := by
  have h0 : Row (sc w b (i * 8 + 0) (c 0)) b t (l.set i (upd (at_ l i) 0 (c 0))) := h.set1 hi (by decide) (c 0)
  have h7 := ((((((h0.setN hi (j := 1) (by decide) (c 1)).setN hi (j := 2) (by decide) (c 2)).setN hi (j := 3) (by decide) (c 3)).setN hi (j := 4) (by decide) (c 4)).setN hi (j := 5) (by decide) (c 5)).setN hi (j := 6) (by decide) (c 6)).setN hi (j := 7) (by decide) (c 7)
  have ha : Alk (upd (upd (upd (upd (upd (upd (upd (upd (at_ l i) 0 (c 0)) 1 (c 1)) 2 (c 2)) 3 (c 3)) 4 (c 4)) 5 (c 5)) 6 (c 6)) 7 (c 7)) c := by
    intro k hk
    rcases lt8 hk with rfl | rfl | rfl | rfl | rfl | rfl | rfl | rfl <;> rfl
  unfold Row at h7 ⊢
  rw [flat_set_alk l i ha] at h7
  exact h7
/-- The same of a block that holds one clock. -/
theorem Blk.setN {w : World} {b : Nat} {t : TypeId} {d : Ck} (h : Blk w b t d) {j : Nat} (hj : j < 8) (x : Int) : Blk (sc w b j x) b t (upd d j x) := h.set hj x
abbrev st8b (w : World) (b : Nat) (c : Ck) : World := sc (sc (sc (sc (sc (sc (sc (sc w b 0 (c 0)) b 1 (c 1)) b 2 (c 2)) b 3 (c 3)) b 4 (c 4)) b 5 (c 5)) b 6 (c 6)) b 7 (c 7)
theorem Blk.set8 {w : World} {b : Nat} {t : TypeId} {d : Ck} (h : Blk w b t d) (c : Ck) : Blk (st8b w b c) b t c := by
  have h7 := (((((((h.setN (j := 0) (by decide) (c 0)).setN (j := 1) (by decide) (c 1)).setN (j := 2) (by decide) (c 2)).setN (j := 3) (by decide) (c 3)).setN (j := 4) (by decide) (c 4)).setN (j := 5) (by decide) (c 5)).setN (j := 6) (by decide) (c 6)).setN (j := 7) (by decide) (c 7)
  have ha : Alk (upd (upd (upd (upd (upd (upd (upd (upd d 0 (c 0)) 1 (c 1)) 2 (c 2)) 3 (c 3)) 4 (c 4)) 5 (c 5)) 6 (c 6)) 7 (c 7)) c := by
    intro k hk
    rcases lt8 hk with rfl | rfl | rfl | rfl | rfl | rfl | rfl | rfl <;> rfl
  unfold Blk at h7 ⊢
  rw [ha.cl] at h7
  exact h7
theorem nesome {a b : Nat} (h : a ≠ b) : some a ≠ some b := fun e => h (Option.some.inj e)
theorem sc_grown (w : World) (b o : Nat) (x : Int) : w.grownBy (sc w b o x) (some b) :=
  ⟨rfl, rfl, rfl, by simp [World.setCell], fun k _ hne => Below.heap_setCell w ⟨b, o, none⟩ _ k (fun e => hne (by rw [e]))⟩
theorem st8b_grown (w : World) (b : Nat) (c : Ck) : w.grownBy (st8b w b c) (some b) :=
  (((((((sc_grown w b 0 (c 0)).trans (sc_grown _ b 1 (c 1))).trans (sc_grown _ b 2 (c 2))).trans (sc_grown _ b 3 (c 3))).trans (sc_grown _ b 4 (c 4))).trans (sc_grown _ b 5 (c 5))).trans (sc_grown _ b 6 (c 6))).trans (sc_grown _ b 7 (c 7))
theorem st8_grown (w : World) (b o : Nat) (c : Ck) : w.grownBy (st8 w b o c) (some b) :=
  (((((((sc_grown w b o (c 0)).trans (sc_grown _ b (o + 1) (c 1))).trans (sc_grown _ b (o + 2) (c 2))).trans (sc_grown _ b (o + 3) (c 3))).trans (sc_grown _ b (o + 4) (c 4))).trans (sc_grown _ b (o + 5) (c 5))).trans (sc_grown _ b (o + 6) (c 6))).trans (sc_grown _ b (o + 7) (c 7))
theorem keeps_of_below {w w' : World} (h : Below w.heap.size w w') : KeepsOthers w w' :=
  ⟨h.size, fun k _ hk _ => (h.block k (Array.getElem?_eq_some_iff.1 hk).1).trans hk⟩
theorem keeps_st8b {w : World} {b : Nat} {t : TypeId} {d : Ck} (h : Blk w b t d) (c : Ck) : KeepsOthers w (st8b w b c) :=
  KeepsOthers.of_grownBy (st8b_grown w b c) (fun j o e ho => by
    cases e
    rw [show w.heap[b]? = _ from h] at ho
    cases ho
    rfl)
end Go.Proofs.YtnalpladieoegaaDoor
