/- The plain words for clocks: what a clock's cells are, what the reference and the program compute of one or two clocks. No condition. -/
import Derived.RangeFuncNested
import Derived.RangeFuncBound
import Derived.RangeFuncCalls
import Derived.RangeFuncLeaves
import Derived.RangeFuncFrom
import Derived.RangeFuncBox
import Derived.Shelf.Abstract
import Derived.Shelf.RegionOpen
import Derived.WalkKit
import Derived.OwnWalkIn
import Derived.TacticsInMore
import Derived.LoopNIn
import Derived.LoopIn
import Derived.Lib.Hide
import Derived.Deep.QuietTactic
import Derived.BigQuiet
import Derived.Deep.RegionHeld3
import Derived.Outline
import Derived.WalkSmall
import Derived.Test.YtnalpladieoegaaDoorProg
namespace Go.Proofs.YtnalpladieoegaaDoor
open Go.RowKit Go.Shelf

/-- A clock: its eight parts. -/
abbrev Ck := Nat → Int
/-- The cells of a clock. -/
abbrev cl (c : Ck) : Array Value := #[.int .i64 (c 0), .int .i64 (c 1), .int .i64 (c 2), .int .i64 (c 3), .int .i64 (c 4), .int .i64 (c 5), .int .i64 (c 6), .int .i64 (c 7)]

theorem lt8 {k : Nat} (h : k < 8) : k = 0 ∨ k = 1 ∨ k = 2 ∨ k = 3 ∨ k = 4 ∨ k = 5 ∨ k = 6 ∨ k = 7 := by omega

theorem cl_get (c : Ck) {k : Nat} (h : k < 8) : (cl c)[k]? = some (.int .i64 (c k)) := by
  rcases lt8 h with rfl | rfl | rfl | rfl | rfl | rfl | rfl | rfl <;> rfl

/-- Clock c with x in the place of part k. -/
def upd (c : Ck) (k : Nat) (x : Int) : Ck := fun i => if i = k then x else c i

theorem cl_set (c : Ck) {k : Nat} (h : k < 8) (x : Int) : (cl c).setIfInBounds k (.int .i64 x) = cl (upd c k x) := by
  rcases lt8 h with rfl | rfl | rfl | rfl | rfl | rfl | rfl | rfl <;> rfl

/-- Block b holds clock c alone. -/
def Blk (w : World) (b : Nat) (t : TypeId) (c : Ck) : Prop := w.heap[b]? = some (.cells (cl c) t (0, 0))

theorem Blk.lt {w : World} {b : Nat} {t : TypeId} {c : Ck} (h : Blk w b t c) : b < w.heap.size := (Array.getElem?_eq_some_iff.1 h).1
theorem Blk.cell {w : World} {b : Nat} {t : TypeId} {c : Ck} (h : Blk w b t c) {k : Nat} (hk : k < 8) : w.cell? ⟨b, k, none⟩ = some (.int .i64 (c k)) := by
  unfold Blk at h
  simp only [World.cell?, h]
  exact cl_get c hk
theorem Blk.frozen {w : World} {b : Nat} {t : TypeId} {c : Ck} (h : Blk w b t c) (k : Nat) : w.frozen? ⟨b, k, none⟩ = false := by
  unfold Blk at h
  simp [World.frozen?, h]
theorem Blk.new (w : World) (t : TypeId) (c : Ck) : Blk (w.alloc (.cells (cl c) t)) w.heap.size t c := World.alloc_heap_new w _
theorem Blk.kept {w w' : World} {row : Option Nat} {b : Nat} {t : TypeId} {c : Ck} (h : Blk w b t c) (hg : w.grownBy w' row) (hne : some b ≠ row) : Blk w' b t c := (hg.block b h.lt hne).trans h
theorem Blk.alloc {w : World} {b : Nat} {t : TypeId} {c : Ck} (h : Blk w b t c) (o : Obj) : Blk (w.alloc o) b t c := h.kept (World.grownBy_alloc w o none) (by simp)
theorem Blk.below {w w' : World} {B b : Nat} {t : TypeId} {c : Ck} (h : Blk w b t c) (hb : Below B w w') (hlt : b < B) : Blk w' b t c := (hb.block b hlt).trans h
theorem Blk.set {w : World} {b : Nat} {t : TypeId} {c : Ck} (h : Blk w b t c) {k : Nat} (hk : k < 8) (x : Int) : Blk (w.setCell ⟨b, k, none⟩ (.int .i64 x)) b t (upd c k x) := by
  have hlt := h.lt
  have h' : w.heap[b] = .cells (cl c) t (0, 0) := by
    unfold Blk at h
    simpa [Array.getElem?_eq_getElem hlt] using h
  show (w.heap.modify b _)[b]? = _
  rw [Array.getElem?_eq_getElem (by simpa using hlt), Array.getElem_modify_self, h']
  simp only [Option.isSome_none, Bool.false_eq_true, if_false]
  rw [cl_set c hk x]
theorem Blk.other {w : World} {b b' : Nat} {t : TypeId} {c : Ck} (h : Blk w b t c) (hne : b ≠ b') (k : Nat) (u : Value) : Blk (w.setCell ⟨b', k, none⟩ u) b t c := (Below.heap_setCell w ⟨b', k, none⟩ u b hne).trans h
theorem Blk.drew {w : World} {b : Nat} {t : TypeId} {c : Ck} (h : Blk w b t c) : Blk w.drew b t c := h

/-! ### What is computed -/
def most : Int := 4611686018427387904
def okI (x : Int) : Bool := decide (0 ≤ x) && decide (x ≤ most)
theorem okI_yes {x : Int} (h0 : ¬ x < 0) (h1 : ¬ 4611686018427387904 < x) : okI x = true := by
  unfold okI most; rw [decide_eq_true (by omega), decide_eq_true (by omega)]; rfl
theorem okI_neg {x : Int} (h : x < 0) : okI x = false := by
  unfold okI; rw [decide_eq_false (by omega)]; rfl
theorem okI_big {x : Int} (h : 4611686018427387904 < x) : okI x = false := by
  unfold okI most; rw [decide_eq_false (p := x ≤ 4611686018427387904) (by omega), Bool.and_false]
theorem ret_bool {a b : Bool} (h : a = b) : Ending.returned (.bool a) = .returned (.bool b) := by rw [h]
theorem ret_int {k : IntKind} {a b : Int} (h : a = b) : Ending.returned (.int k a) = .returned (.int k b) := by rw [h]
def okC (c : Ck) : Bool := (List.range 8).all fun i => okI (c i)
theorem okC_yes {c : Ck} (h : ∀ k, k < 8 → okI (c k) = true) : okC c = true := by simpa [okC] using h
theorem okC_no {c : Ck} {k : Nat} (h : k < 8) (hk : okI (c k) = false) : okC c = false := by
  cases hc : okC c with
  | false => rfl
  | true => simp only [okC, List.all_eq_true, List.mem_range] at hc; rw [hc k h] at hk; cases hk
def wiB (a b : Ck) : Bool := (List.range 8).all fun i => decide (a i ≤ b i)
theorem wiB_yes {a b : Ck} (h : ∀ k, k < 8 → a k ≤ b k) : wiB a b = true := by simpa [wiB] using h
theorem wiB_no {a b : Ck} {k : Nat} (h : k < 8) (hk : b k < a k) : wiB a b = false := by
  cases hc : wiB a b with
  | false => rfl
  | true => simp only [wiB, List.all_eq_true, List.mem_range, decide_eq_true_eq] at hc; have := hc k h; omega
def jn (a b : Ck) : Ck := fun i => max (a i) (b i)
def eqB (a b : Ck) : Bool := (List.range 8).all fun i => decide (a i = b i)
end Go.Proofs.YtnalpladieoegaaDoor
