/- The end of a function whose result is a clock that lies in a block. No condition. -/
import Derived.Test.YtnalpladieoegaaDoorMem
namespace Go.Proofs.YtnalpladieoegaaDoor
open Go.RowKit Go.Shelf

theorem end_c68 {fn : Func} {R : Ending → World → Prop} {act : Act} {W : World} {b : Nat} {t : TypeId} {s : Tmp} {c : Ck} (h : Blk W b t c) (hres : fn.results = #[.cell s 68])
    (hs : act.tmps.getD s undef = .pointer (some ⟨b, 0, none⟩)) (hd : act.defers = []) (hR : R (.returned (.agg (cl c))) W) : bodyPost Tryd.prog fn R .ret act W := by
  have e0 := h.cell (k := 0) (by decide)
  have e1 := h.cell (k := 1) (by decide)
  have e2 := h.cell (k := 2) (by decide)
  have e3 := h.cell (k := 3) (by decide)
  have e4 := h.cell (k := 4) (by decide)
  have e5 := h.cell (k := 5) (by decide)
  have e6 := h.cell (k := 6) (by decide)
  have e7 := h.cell (k := 7) (by decide)
  have hs' : act.tmps[s]?.getD undef = .pointer (some ⟨b, 0, none⟩) := by rw [← hs]; simp
  refine bodyPost_ret (v := .agg (cl c)) ?_ hd hR
  simp [results, hres, go_sem, hs', e0, e1, e2, e3, e4, e5, e6, e7]

theorem end_c23 {fn : Func} {R : Ending → World → Prop} {act : Act} {W : World} {b : Nat} {t : TypeId} {s : Tmp} {c : Ck} (h : Blk W b t c) (hres : fn.results = #[.cell s 23])
    (hs : act.tmps.getD s undef = .pointer (some ⟨b, 0, none⟩)) (hd : act.defers = []) (hR : R (.returned (.agg (cl c))) W) : bodyPost Tryd.prog fn R .ret act W := by
  have e0 := h.cell (k := 0) (by decide)
  have e1 := h.cell (k := 1) (by decide)
  have e2 := h.cell (k := 2) (by decide)
  have e3 := h.cell (k := 3) (by decide)
  have e4 := h.cell (k := 4) (by decide)
  have e5 := h.cell (k := 5) (by decide)
  have e6 := h.cell (k := 6) (by decide)
  have e7 := h.cell (k := 7) (by decide)
  have hs' : act.tmps[s]?.getD undef = .pointer (some ⟨b, 0, none⟩) := by rw [← hs]; simp
  refine bodyPost_ret (v := .agg (cl c)) ?_ hd hR
  simp [results, hres, go_sem, hs', e0, e1, e2, e3, e4, e5, e6, e7]

theorem end_c23t {fn : Func} {R : Ending → World → Prop} {act : Act} {W : World} {b : Nat} {t : TypeId} {s u : Tmp} {c : Ck} {v : Value} (h : Blk W b t c) (hres : fn.results = #[.cell s 23, .tmp u])
    (hs : act.tmps.getD s undef = .pointer (some ⟨b, 0, none⟩)) (hu : act.tmps.getD u undef = v) (hd : act.defers = []) (hR : R (.returned (.tuple #[.agg (cl c), v])) W) : bodyPost Tryd.prog fn R .ret act W := by
  have e0 := h.cell (k := 0) (by decide)
  have e1 := h.cell (k := 1) (by decide)
  have e2 := h.cell (k := 2) (by decide)
  have e3 := h.cell (k := 3) (by decide)
  have e4 := h.cell (k := 4) (by decide)
  have e5 := h.cell (k := 5) (by decide)
  have e6 := h.cell (k := 6) (by decide)
  have e7 := h.cell (k := 7) (by decide)
  have hs' : act.tmps[s]?.getD undef = .pointer (some ⟨b, 0, none⟩) := by rw [← hs]; simp
  have hu' : act.tmps[u]?.getD undef = v := by rw [← hu]; simp
  refine bodyPost_ret (v := .tuple #[.agg (cl c), v]) ?_ hd hR
  simp [results, hres, go_sem, hs', hu', e0, e1, e2, e3, e4, e5, e6, e7]
end Go.Proofs.YtnalpladieoegaaDoor
