/- What the cells of unmarked blocks keep. No condition but what each law says. -/
import Derived.Test.YtgppcdfgdaggjaaGreatDoorR02
namespace Go
open Go.RowKit
theorem World.cellF_shape {w : World} {a : Addr} {v : Value} (h : w.cellF a = some v) : ∃ c ty, w.heap[a.block]? = some (.cells c ty (0, 0)) := by
 unfold World.cellF at h
 split at h
 ·rename_i c ty he
  exact ⟨c, ty, he⟩
 ·cases h
theorem World.cellF_of {w w' : World} {b : Nat} (h : w'.heap[b]? = w.heap[b]?) (o : Nat) : w'.cellF ⟨b, o, none⟩ = w.cellF ⟨b, o, none⟩ := by
 unfold World.cellF
 rw [h]
theorem World.cellF_mk {w : World} {b o : Nat} {c : Array Value} {ty : TypeId} {v : Value} (h : w.heap[b]? = some (.cells c ty (0, 0))) (hv : w.cell? ⟨b, o, none⟩ = some v) : w.cellF ⟨b, o, none⟩ = some v := by
 unfold World.cellF
 unfold World.cell? at hv
 rw [h] at hv ⊢
 exact hv
theorem World.cellF_setCell_far (w : World) (p q : Addr) (u : Value) (h : p.block ≠ q.block) : (w.setCell p u).cellF q = w.cellF q := by
 have h2 : (w.setCell p u).heap[q.block]? = w.heap[q.block]? := Below.heap_setCell w p u q.block (Ne.symm h)
 unfold World.cellF
 rw [h2]
def World.rangeF (w : World) (b o : Nat) (cs : List Value) : Prop := ∀ j v, cs[j]? = some v → w.cellF ⟨b, o + j, none⟩ = some v
theorem World.rangeF_at {w : World} {b o : Nat} {cs : List Value} (h : w.rangeF b o cs) (j : Nat) (v : Value) (hv : cs[j]? = some v) : w.cell? ⟨b, o + j, none⟩ = some v := World.cellF_cell (h j v hv)
end Go
