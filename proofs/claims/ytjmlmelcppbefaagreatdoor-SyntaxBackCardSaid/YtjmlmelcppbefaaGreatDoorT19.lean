/- What the syntax texts share, part 19. No condition. -/
import Derived.Test.YtjmlmelcppbefaaGreatDoorT18
namespace Go.Proofs.YtjmlmelcppbefaaGreatDoor
open Go.RowKit
structure InvD (w : World) (s : ByteArray) (R : List Wd × (Int × Int) × Int) (e k : Nat) (acc : List Wd) (v : Value) (W : World) : Prop where
 lx : lexA s e acc = R
 ln : acc.length ≤ k
 le : k ≤ s.size
 ow : W.ownsRow (w.heap.size + 2) 91 5 v acc.length (acc.flatMap Wd.cells)
 b1 : Ps W (w.heap.size + 1) (posAt s k)
 b0 : Ps W w.heap.size (0, 0)
 bl : Below w.heap.size w W
 sz : w.heap.size + 2 ≤ W.heap.size
theorem own_set1 {W : World} {B e size n b j : Nat} {v u : Value} {xs : List Value} (h : W.ownsRow B e size v n xs) (hb : b < B) : (W.setCell ⟨b, j, none⟩ u).ownsRow B e size v n xs :=
 h.kept (row := some b) ⟨rfl, rfl, rfl, by simp [World.setCell], fun k _ hk => Below.heap_setCell W ⟨b, j, none⟩ u k (fun e => hk (by rw [e]))⟩ (.inr (row_ne h hb).symm)
section
variable {w W : World} {s : ByteArray} {R : List Wd × (Int × Int) × Int} {e k : Nat} {acc : List Wd} {v : Value}
theorem InvD.line (h : InvD w s R e k acc v W) (hk : k < s.size) (hb : byte s k = 10) {e' : Nat} (he : lexA s e' acc = R) :
  InvD w s R e' (k + 1) acc v ((W.setCell ⟨w.heap.size + 1, 0, none⟩ (.int .i64 ((posAt s k).1 + 1))).setCell ⟨w.heap.size + 1, 1, none⟩ (.int .i64 1)) := by
 refine ⟨he, by have := h.ln; omega, hk, own_set1 (own_set1 h.ow (by omega)) (by omega), ?_, (h.b0.other (by omega) _ _).other (by omega) _ _, (h.bl.setCell (p := ⟨w.heap.size + 1, 0, none⟩) (Nat.le_succ _) _).setCell (p := ⟨w.heap.size + 1, 1, none⟩) (Nat.le_succ _) _, by simpa [World.setCell] using h.sz⟩
 have h2 := (h.b1.set0 ((posAt s k).1 + 1)).set1 1
 show Ps _ _ (adv (posAt s k) (byte s k))
 unfold adv
 rw [if_pos hb]
 exact h2
theorem InvD.col (h : InvD w s R e k acc v W) (hk : k < s.size) (hb : byte s k ≠ 10) {e' : Nat} (he : lexA s e' acc = R) :
  InvD w s R e' (k + 1) acc v (W.setCell ⟨w.heap.size + 1, 1, none⟩ (.int .i64 ((posAt s k).2 + 1))) := by
 refine ⟨he, by have := h.ln; omega, hk, own_set1 h.ow (by omega), ?_, h.b0.other (by omega) _ _, h.bl.setCell (p := ⟨w.heap.size + 1, 1, none⟩) (Nat.le_succ _) _, by simpa [World.setCell] using h.sz⟩
 have h2 := h.b1.set1 ((posAt s k).2 + 1)
 show Ps _ _ (adv (posAt s k) (byte s k))
 unfold adv
 rw [if_neg hb]
 exact h2
theorem InvD.push (h : InvD w s R e k acc v W) {w1 w2 : World} (hb1 : Below W.heap.size W w1) {o1 o2 : Obj} {t : Wd} {v' : Value} {n : Nat}
  (hown : w2.ownsRow (w.heap.size + 2) 91 5 v' (acc.length + 1) (acc.flatMap Wd.cells ++ t.cells)) (hgrow : ((w1.alloc o1).alloc o2).grownBy w2 v.ownBlock)
  (hR : lexA s (k + n) (acc ++ [t]) = R) (hn : 0 < n) (hle : k + n ≤ s.size) (hp : posAt s (k + n) = ((posAt s k).1, (posAt s k).2 + n)) :
  Ps w2 (w.heap.size + 1) (posAt s k) ∧ InvD w s R (k + n) (k + n) (acc ++ [t]) v' (w2.setCell ⟨w.heap.size + 1, 1, none⟩ (.int .i64 ((posAt s k).2 + n))) := by
 have p1 : Ps w2 (w.heap.size + 1) (posAt s k) := (((h.b1.below hb1 h.b1.lt).alloc o1).alloc o2).kept hgrow (row_ne h.ow (by omega))
 have p0 : Ps w2 w.heap.size (0, 0) := (((h.b0.below hb1 h.b0.lt).alloc o1).alloc o2).kept hgrow (row_ne h.ow (by omega))
 have hsz := hb1.size
 have hsz2 := h.sz
 have hsz3 := hgrow.size
 simp at hsz3
 refine ⟨p1, hR, by have := h.ln; simp; omega, hle, ?_, ?_, p0.other (by omega) _ _, ?_, by simp [World.setCell]; omega⟩
 ·have h2 := own_set1 (j := 1) (u := .int .i64 ((posAt s k).2 + n)) hown (by omega : w.heap.size + 1 < w.heap.size + 2)
  simpa using h2
 ·rw [hp]
  exact p1.set1 _
 ·refine Below.setCell (p := ⟨w.heap.size + 1, 1, none⟩) ?_ (Nat.le_succ _) _
  refine ((((h.bl.trans (hb1.mono (by omega))).alloc (by omega) o1).alloc (by simp; omega) o2)).grown hgrow (by simp; omega) (fun r er => ?_)
  have := (h.ow.lt r er).1
  omega
end
end Go.Proofs.YtjmlmelcppbefaaGreatDoor
