/- What the lifted proofs of the clocks' laws share: the table of powers out of the row's condition, a clock argument opened. No condition. -/
import Derived.Test.YtnalpladieoegaaDoorRows
import Derived.Test.YtnalpladieoegaaDoorText
import Derived.ProofKit
import Derived.LaidMore
import Derived.Lay
import Derived.LaidOnce
import Derived.OpenShut
import Derived.Below
import Derived.Carry
import Derived.Stop.Joined
import Derived.Stop.LaidErr
namespace Go.Proofs.YtnalpladieoegaaDoor
open Go.ChangeShapes Go.WideShapes Go.ChangeAt Go.RowKit

theorem own : ownKnob Tryd.prog.godebug = none := by kernel_rfl
theorem laidOut : laidOutB Tryd.prog = true := by kernel_rfl
def laid3 : List (String × DataW Unit) := [("math/bits.deBruijn32tab", Rows.laid_math_bits_deBruijn32tab), ("math/bits.deBruijn64tab", Rows.laid_math_bits_deBruijn64tab), ("internal/strconv.uint64pow10", Rows.laid_internal_strconv_uint64pow10)]

theorem tab_of {W : World} (h : laidMetH Tryd.prog laid3 W) : Tab W ∧ 0 < W.heap.size := by
  rw [MakeChecks.laidMetH_plain _ _ _ (by kernel_rfl)] at h
  have h2 := h.tail.tail
  have ht : Tab W := Lib.tabIs_of_head gPow (t := 120) (e := 112) (n := 20) (by kernel_rfl) (by kernel_rfl) (by kernel_rfl) (by kernel_rfl) (by kernel_rfl) h2
  have hc := Lib.TabIs.cell ht gPow 0 (by decide)
  refine ⟨ht, ?_⟩
  rcases Nat.eq_zero_or_pos W.heap.size with h0 | h0
  · simp [World.cell?, Array.getElem?_eq_none (Nat.le_of_eq h0)] at hc
  · exact h0

set_option maxRecDepth 100000 in
theorem clock_in {H : Type} {enc : TypeId × Value → H} {W : World} {base : Nat} {p : List MemPlace} {d : DataW H} {v : Value} (hv : Value.okWide Tryd.prog W .any base 23 v)
    (h : DataW.Trod enc Tryd.prog W 0 (fun _ => true) true 23 v d p) : ∃ c : Ck, v = .agg (cl c) ∧ Fit c := by
  simp only [Value.okWide, Tryd.underlying23] at hv
  obtain ⟨cs, rfl, _, _⟩ := hv
  obtain ⟨fuel, h⟩ := h
  obtain ⟨xs, m, _, ex, hlen, hl, hel⟩ := DataW.trod_array Tryd.underlying23 h
  have c2 : Tryd.prog.cellsOf 2 = 1 := by kernel_rfl
  have c23 : Tryd.prog.cellsOf 23 = 8 := by kernel_rfl
  rw [c23] at hlen
  rw [c2] at hel
  simp only [Value.cells] at hlen hel
  obtain ⟨l⟩ := cs
  match l, hlen with
  | [y0, y1, y2, y3, y4, y5, y6, y7], _ =>
    match xs, hl with
    | [x0, x1, x2, x3, x4, x5, x6, x7], _ =>
      obtain ⟨z0, a0, _, w0⟩ := DataW.trod_int Tryd.underlying2 (hel 0 (by omega))
      obtain ⟨z1, a1, _, w1⟩ := DataW.trod_int Tryd.underlying2 (hel 1 (by omega))
      obtain ⟨z2, a2, _, w2⟩ := DataW.trod_int Tryd.underlying2 (hel 2 (by omega))
      obtain ⟨z3, a3, _, w3⟩ := DataW.trod_int Tryd.underlying2 (hel 3 (by omega))
      obtain ⟨z4, a4, _, w4⟩ := DataW.trod_int Tryd.underlying2 (hel 4 (by omega))
      obtain ⟨z5, a5, _, w5⟩ := DataW.trod_int Tryd.underlying2 (hel 5 (by omega))
      obtain ⟨z6, a6, _, w6⟩ := DataW.trod_int Tryd.underlying2 (hel 6 (by omega))
      obtain ⟨z7, a7, _, w7⟩ := DataW.trod_int Tryd.underlying2 (hel 7 (by omega))
      simp at a0 a1 a2 a3 a4 a5 a6 a7
      subst a0 a1 a2 a3 a4 a5 a6 a7
      refine ⟨fun i => [z0, z1, z2, z3, z4, z5, z6, z7].getD i 0, rfl, fun i hi => ?_⟩
      simp only [Lit.wf, IntKind.min, IntKind.max, IntKind.signed, IntKind.bits] at w0 w1 w2 w3 w4 w5 w6 w7
      simp at w0 w1 w2 w3 w4 w5 w6 w7
      rcases lt8 hi with rfl | rfl | rfl | rfl | rfl | rfl | rfl | rfl
      · exact w0
      · exact w1
      · exact w2
      · exact w3
      · exact w4
      · exact w5
      · exact w6
      · exact w7
end Go.Proofs.YtnalpladieoegaaDoor
