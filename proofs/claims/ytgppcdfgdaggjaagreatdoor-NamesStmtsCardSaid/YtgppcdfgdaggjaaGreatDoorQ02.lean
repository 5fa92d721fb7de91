/- Texts laid together. No condition but what each law says. -/
import Derived.Test.YtgppcdfgdaggjaaGreatDoorQ01
import Derived.Tactics2
namespace Go.Proofs.YtgppcdfgdaggjaaGreatDoor
open Go.RowKit
universe u
theorem ifN {c : Prop} {h : Decidable c} (hc : ¬ c) {α : Sort u} {t e : α} : ite c t e = e := if_neg hc
theorem ifP {c : Prop} {h : Decidable c} (hc : c) {α : Sort u} {t e : α} : ite c t e = t := if_pos hc
theorem dcF {p : Prop} [i : Decidable p] : ¬ p → decide p = false := decide_eq_false
theorem dcT {p : Prop} [i : Decidable p] : p → decide p = true := decide_eq_true
abbrev I (x : Int) : Value := .int .i64 x
abbrev ad (b k : Nat) : Addr := ⟨b, k, none⟩
abbrev Pt (b : Nat) : Value := .pointer (some ⟨b, 0, none⟩)
theorem ws {P : Program} {Q : Exit → Act → World → Prop} {a a' : Act} {w w' : World} {x y : Code} (h : y.wp P Q a' w')
  (hx : ∀ K : Act → World → Prop, K a' w' → x.wp P (Exit.then K Q) a w := by intro K hK; go_wp2_with fail; exact hK) : (Code.seq x y).wp P Q a w :=
 wp_seq_k fun K hK => hx K (hK _ _ h)
section
variable {P : Program} {ops : Array Oper} {Q : Exit → Act → World → Prop} {a : Act} {w : World} {rest : List Oper} {t : TypeId} {p : String} {e : Array Edge} {g : Option (Nat × Bool)}
theorem s0 (T : TypeId) {x y : Operand} (h : wpList P ops Q (Oper.mk none (.store T x y) t p e g :: rest) a w) : wpList P ops Q (Oper.mk none (.store T x y) t p e g :: rest) a w := h
theorem s1 (T : TypeId) (x : Tmp) {y : Operand} (h : wpList P ops Q (Oper.mk none (.store T (.tmp x) y) t p e g :: rest) a w) : wpList P ops Q (Oper.mk none (.store T (.tmp x) y) t p e g :: rest) a w := h
theorem l1 (d : Tmp) (T : TypeId) {x : Operand} (h : wpList P ops Q (Oper.mk (some d) (.load T x) t p e g :: rest) a w) : wpList P ops Q (Oper.mk (some d) (.load T x) t p e g :: rest) a w := h
theorem l0 (T : TypeId) {d : Option Tmp} {x : Operand} (h : wpList P ops Q (Oper.mk d (.load T x) t p e g :: rest) a w) : wpList P ops Q (Oper.mk d (.load T x) t p e g :: rest) a w := h
end
end Go.Proofs.YtgppcdfgdaggjaaGreatDoor
namespace Go
open Go.RowKit
def World.cellF (w : World) (a : Addr) : Option Value :=
 match w.heap[a.block]? with
 | some (.cells c _ (0, 0)) => if a.spot.isSome then none else c[a.off]?
 | _ => none
theorem World.cellF_cell {w : World} {a : Addr} {v : Value} (h : w.cellF a = some v) : w.cell? a = some v := by
 unfold World.cellF at h
 unfold World.cell?
 split at h
 ·rename_i he
  rw [he]
  exact h
 ·cases h
theorem World.cellF_shape {w : World} {a : Addr} {v : Value} (h : w.cellF a = some v) : ∃ c ty, w.heap[a.block]? = some (.cells c ty (0, 0)) := by
 unfold World.cellF at h
 split at h
 ·rename_i c ty he
  exact ⟨c, ty, he⟩
 ·cases h
theorem World.cellF_of {w w' : World} {b : Nat} (h : w'.heap[b]? = w.heap[b]?) (o : Nat) : w'.cellF ⟨b, o, none⟩ = w.cellF ⟨b, o, none⟩ := by
 unfold World.cellF
 rw [h]
theorem World.block_lt_of_cellF (w : World) {a : Addr} {v : Value} (h : w.cellF a = some v) : a.block < w.heap.size := World.block_lt_of_cell? w _ (World.cellF_cell h)
theorem World.cellF_mk {w : World} {b o : Nat} {c : Array Value} {ty : TypeId} {v : Value} (h : w.heap[b]? = some (.cells c ty (0, 0))) (hv : w.cell? ⟨b, o, none⟩ = some v) : w.cellF ⟨b, o, none⟩ = some v := by
 unfold World.cellF
 unfold World.cell? at hv
 rw [h] at hv ⊢
 exact hv
theorem World.cellF_setCell_far (w : World) (p q : Addr) (u : Value) (h : p.block ≠ q.block) : (w.setCell p u).cellF q = w.cellF q := by
 have h2 : (w.setCell p u).heap[q.block]? = w.heap[q.block]? := Below.heap_setCell w p u q.block (Ne.symm h)
 unfold World.cellF
 rw [h2]
def World.rangeF (w : World) (b o : Nat) (cs : List Value) : Prop := ∀ j v, cs[j]? = some v → w.cellF ⟨b, o + j, none⟩ = some v
theorem World.rangeF_at {w : World} {b o : Nat} {cs : List Value} (h : w.rangeF b o cs) (j : Nat) (v : Value) (hv : cs[j]? = some v) : w.cell? ⟨b, o + j, none⟩ = some v := World.cellF_cell (h j v hv)
end Go
