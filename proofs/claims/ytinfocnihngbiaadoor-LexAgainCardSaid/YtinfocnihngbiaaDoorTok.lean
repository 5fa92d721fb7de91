/- A word in memory. No condition but that it lies. -/
import Derived.Test.YtinfocnihngbiaaDoorNum
import Derived.Test.YtinfocnihngbiaaDoorSign2
namespace Go.Proofs.YtinfocnihngbiaaDoor
open Go.RowKit Go.Maps

theorem Kp.alloc {w w' : World} {a b : Nat} (h : Kp w w' a b) (o : Obj) : Kp w (w'.alloc o) a b :=
  h.trans (Kp.below ((Below.refl _ w').alloc (Nat.le_refl _) o))
theorem Kp.setNew {w w' : World} {a b r : Nat} (h : Kp w w' a b) (hr : w.heap.size ≤ r) (k : Nat) (u : Value) : Kp w (w'.setCell ⟨r, k, none⟩ u) a b :=
  ⟨h.os, h.tape, h.output, by simpa [World.setCell] using h.size, fun j hj h1 h2 => (Below.heap_setCell w' ⟨r, k, none⟩ u j (by show j ≠ r; omega)).trans (h.block j hj h1 h2)⟩
theorem Kp.drewN {w w' : World} {a b : Nat} (h : Kp w w' a b) (n : Nat) : Kp w (w'.drewN n) a b := ⟨h.os, h.tape, h.output, h.size, h.block⟩

/-- Block b holds a word. -/
def Tk (w : World) (b : Nat) (kind : Int) (t : ByteArray) (num : Int) (p : Int × Int) : Prop := w.heap[b]? = some (.cells #[.int .i64 kind, .string t, .int .i64 num, .int .i64 p.1, .int .i64 p.2] 39 (0, 0))
section
variable {w : World} {b : Nat} {kind : Int} {t : ByteArray} {num : Int} {p : Int × Int}
theorem Tk.lt (h : Tk w b kind t num p) : b < w.heap.size := (Array.getElem?_eq_some_iff.1 h).1
theorem Tk.c0 (h : Tk w b kind t num p) : w.cell? ⟨b, 0, none⟩ = some (.int .i64 kind) := by unfold Tk at h; simp [World.cell?, h]
theorem Tk.c1 (h : Tk w b kind t num p) : w.cell? ⟨b, 1, none⟩ = some (.string t) := by unfold Tk at h; simp [World.cell?, h]
theorem Tk.c2 (h : Tk w b kind t num p) : w.cell? ⟨b, 2, none⟩ = some (.int .i64 num) := by unfold Tk at h; simp [World.cell?, h]
theorem Tk.c3 (h : Tk w b kind t num p) : w.cell? ⟨b, 3, none⟩ = some (.int .i64 p.1) := by unfold Tk at h; simp [World.cell?, h]
theorem Tk.c4 (h : Tk w b kind t num p) : w.cell? ⟨b, 4, none⟩ = some (.int .i64 p.2) := by unfold Tk at h; simp [World.cell?, h]
theorem Tk.frozen (h : Tk w b kind t num p) (k : Nat) : w.frozen? ⟨b, k, none⟩ = false := by unfold Tk at h; simp [World.frozen?, h]
theorem Tk.of {w' : World} (h : Tk w b kind t num p) (he : w'.heap[b]? = w.heap[b]?) : Tk w' b kind t num p := he.trans h
theorem Tk.drewN (h : Tk w b kind t num p) (n : Nat) : Tk (w.drewN n) b kind t num p := h
theorem Tk.alloc (h : Tk w b kind t num p) (o : Obj) : Tk (w.alloc o) b kind t num p := h.of ((World.grownBy_alloc w o none).block b h.lt (by simp))
theorem Tk.other (h : Tk w b kind t num p) {r : Nat} (hne : b ≠ r) (k : Nat) (u : Value) : Tk (w.setCell ⟨r, k, none⟩ u) b kind t num p := h.of (Below.heap_setCell w ⟨r, k, none⟩ u b hne)
theorem Tk.set0 (h : Tk w b kind t num p) (x : Int) : Tk (w.setCell ⟨b, 0, none⟩ (.int .i64 x)) b x t num p := by
  have h2 := heap_set (j := 0) h (.int .i64 x)
  unfold Tk
  rw [h2]
  simp
theorem Tk.set1 (h : Tk w b kind t num p) (x : ByteArray) : Tk (w.setCell ⟨b, 1, none⟩ (.string x)) b kind x num p := by
  have h2 := heap_set (j := 1) h (.string x)
  unfold Tk
  rw [h2]
  simp
theorem Tk.set2 (h : Tk w b kind t num p) (x : Int) : Tk (w.setCell ⟨b, 2, none⟩ (.int .i64 x)) b kind t x p := by
  have h2 := heap_set (j := 2) h (.int .i64 x)
  unfold Tk
  rw [h2]
  simp
theorem Tk.set34 (h : Tk w b kind t num p) (x y : Int) : Tk ((w.setCell ⟨b, 3, none⟩ (.int .i64 x)).setCell ⟨b, 4, none⟩ (.int .i64 y)) b kind t num (x, y) := by
  have h2 := heap_set (j := 4) (heap_set (j := 3) h (.int .i64 x)) (.int .i64 y)
  unfold Tk
  rw [h2]
  simp
theorem Tk.set5 (h : Tk w b kind t num p) (k2 : Int) (t2 : ByteArray) (n2 x y : Int) : Tk (((((w.setCell ⟨b, 0, none⟩ (.int .i64 k2)).setCell ⟨b, 1, none⟩ (.string t2)).setCell ⟨b, 2, none⟩ (.int .i64 n2)).setCell ⟨b, 3, none⟩ (.int .i64 x)).setCell ⟨b, 4, none⟩ (.int .i64 y)) b k2 t2 n2 (x, y) :=
  (((h.set0 k2).set1 t2).set2 n2).set34 x y
end
theorem Rd.other {w : World} {b k : Nat} {s : ByteArray} {kw sg : Value} (h : Rd w b s k kw sg) {r : Nat} (hne : b ≠ r) (j : Nat) (u : Value) : Rd (w.setCell ⟨r, j, none⟩ u) b s k kw sg := h.of (Below.heap_setCell w ⟨r, j, none⟩ u b hne)

theorem end_tk {fn : Func} {R : Ending → World → Prop} {act : Act} {W : World} {b : Nat} {s u : Tmp} {kind num : Int} {t : ByteArray} {p : Int × Int} {v : Value} (h : Tk W b kind t num p) (hres : fn.results = #[.cell s 39, .tmp u])
    (hs : act.tmps.getD s undef = .pointer (some ⟨b, 0, none⟩)) (hu : act.tmps.getD u undef = v) (hd : act.defers = []) (hR : R (.returned (.tuple #[.agg #[.int .i64 kind, .string t, .int .i64 num, .int .i64 p.1, .int .i64 p.2], v])) W) : bodyPost Tryd.prog fn R .ret act W := by
  have e0 := h.c0
  have e1 := h.c1
  have e2 := h.c2
  have e3 := h.c3
  have e4 := h.c4
  have hs' : act.tmps[s]?.getD undef = .pointer (some ⟨b, 0, none⟩) := by rw [← hs]; simp
  have hu' : act.tmps[u]?.getD undef = v := by rw [← hu]; simp
  refine bodyPost_ret (v := .tuple #[.agg #[.int .i64 kind, .string t, .int .i64 num, .int .i64 p.1, .int .i64 p.2], v]) ?_ hd hR
  simp [results, hres, go_sem, hs', hu', e0, e1, e2, e3, e4]
end Go.Proofs.YtinfocnihngbiaaDoor
