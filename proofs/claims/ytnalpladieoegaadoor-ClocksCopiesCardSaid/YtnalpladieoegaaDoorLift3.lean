/- What the last lifted proofs share: numbers in a slice, a call, a life opened. No condition. -/
import Derived.Test.YtnalpladieoegaaDoorLift2
import Derived.Test.YtnalpladieoegaaDoorLawF
namespace Go.Proofs.YtnalpladieoegaaDoor
open Go.ChangeShapes Go.WideShapes Go.ChangeAt Go.RowKit

theorem one_cell {W : World} {A : Addr} {c : List Value} (hc : W.cells? 0 A 1 = some c) : ∃ y0, c = [y0] ∧ W.cell? (A.add 0) = some y0 := by
  unfold World.cells? at hc
  split at hc
  · simp only [List.range_succ, List.range_zero, List.nil_append, List.mapM_cons, List.mapM_nil, Option.bind_eq_bind, Option.bind_eq_some_iff, Option.pure_def, Option.some.injEq] at hc
    obtain ⟨y0, k0, _, rfl, rfl⟩ := hc
    exact ⟨y0, rfl, k0⟩
  · cases hc

theorem ints_in {H : Type} {enc : TypeId × Value → H} {W : World} {a : Option Addr} {len cap : Nat} {p : List MemPlace} {d : DataW H}
    (h : DataW.Trod enc Tryd.prog W 0 (fun _ => true) true 44 (.slice a len cap) d p) : Ints W a len := by
  obtain ⟨fuel, h⟩ := h
  have c3 : Tryd.prog.cellsOf 3 = 1 := by kernel_rfl
  rcases DataW.trod_slice Tryd.underlying44 h with ⟨hcs, _⟩ | ⟨a', len', cap', elems, rest, n, _, hcs, _, _, _, _, hlen, hel, _⟩
  · simp only [Value.cells] at hcs
    simp at hcs
    obtain ⟨_, rfl, _⟩ := hcs
    intro i hi
    omega
  · simp only [Value.cells] at hcs
    simp at hcs
    obtain ⟨rfl, rfl, rfl⟩ := hcs
    rw [c3] at hel
    have hel' : ∀ i, i < len → ∃ x : Int, W.cell? ((a'.add (i * 1)).add 0) = some (.int .i64 x) := by
      intro i hi
      have hE := hel i hi
      rw [List.getElem?_eq_getElem (by omega)] at hE
      obtain ⟨c, hc, ht⟩ := Option.bind_eq_some_iff.1 hE
      obtain ⟨y0, rfl, k0⟩ := one_cell hc
      obtain ⟨x, hx, _⟩ := DataW.trod_int Tryd.underlying3 ht
      simp at hx
      exact ⟨x, by rw [k0, hx]⟩
    intro i hi
    obtain ⟨b, off, spot⟩ := a'
    obtain ⟨_, k0'⟩ := hel' 0 (by omega)
    have hspot : spot = none := by simpa [Addr.add] using World.cell?_spot k0'
    subst hspot
    obtain ⟨x, k0⟩ := hel' i hi
    simp only [addr_add] at k0
    rw [Nat.add_zero, Nat.mul_one] at k0
    exact ⟨b, off, rfl, cell_lt k0, x, k0⟩

set_option maxRecDepth 100000 in
theorem act_in {H : Type} {enc : TypeId × Value → H} {W : World} {base : Nat} {p : List MemPlace} {d : DataW H} {v : Value} (hv : Value.okWide Tryd.prog W .any base 46 v)
    (h : DataW.Trod enc Tryd.prog W 0 (fun _ => true) true 46 v d p) : ∃ x y z : Int, v = .agg #[.int .i64 x, .int .i64 y, .int .i64 z] := by
  simp only [Value.okWide, Tryd.underlying46] at hv
  obtain ⟨cs, rfl, _⟩ := hv
  obtain ⟨fuel, h⟩ := h
  simp only [Value.cells] at h
  obtain ⟨x, y, z, e⟩ := act_cells h
  obtain ⟨l⟩ := cs
  simp at e
  subst e
  exact ⟨x, y, z, rfl⟩

set_option maxRecDepth 100000 in
theorem life_in {H : Type} {enc : TypeId × Value → H} {W : World} {base : Nat} {p : List MemPlace} {d : DataW H} {v : Value} (hv : Value.okWide Tryd.prog W .any base 59 v)
    (h : DataW.Trod enc Tryd.prog W 0 (fun _ => true) true 59 v d p) : ∃ (n m : Int) (a : Option Addr) (len cap : Nat), v = .agg #[.int .i64 n, .int .i64 m, .slice a len cap] ∧ Acts W a len := by
  simp only [Value.okWide, Tryd.underlying59] at hv
  obtain ⟨cs, rfl, _⟩ := hv
  obtain ⟨fuel, h⟩ := h
  simp only [Value.cells] at h
  obtain ⟨l⟩ := cs
  obtain ⟨xs, m, _, _, hlen, hl, hel⟩ := DataW.trod_struct Tryd.underlying59 h
  have c59 : Tryd.prog.cellsOf 59 = 3 := by kernel_rfl
  have c3 : Tryd.prog.cellsOf 3 = 1 := by kernel_rfl
  have c36 : Tryd.prog.cellsOf 36 = 1 := by kernel_rfl
  rw [c59] at hlen
  match l, hlen with
  | [y0, y1, y2], _ =>
    match xs, hl with
    | [x0, x1, x2], _ =>
      have e0 : DataW.trod enc Tryd.prog W 0 (fun _ => true) true m 3 (([y0, y1, y2].drop 0).take (Tryd.prog.cellsOf 3)) = some x0 := hel 0 _ rfl
      have e1 : DataW.trod enc Tryd.prog W 0 (fun _ => true) true m 3 (([y0, y1, y2].drop 1).take (Tryd.prog.cellsOf 3)) = some x1 := hel 1 _ rfl
      have e2 : DataW.trod enc Tryd.prog W 0 (fun _ => true) true m 36 (([y0, y1, y2].drop 2).take (Tryd.prog.cellsOf 36)) = some x2 := hel 2 _ rfl
      rw [c3] at e0 e1
      rw [c36] at e2
      obtain ⟨z0, a0, _⟩ := DataW.trod_int Tryd.underlying3 e0
      obtain ⟨z1, a1, _⟩ := DataW.trod_int Tryd.underlying3 e1
      simp at a0 a1
      subst a0 a1
      have e2' : DataW.trod enc Tryd.prog W 0 (fun _ => true) true m 36 [y2] = some x2 := e2
      rcases DataW.trod_slice Tryd.underlying36 e2' with ⟨hcs, _⟩ | ⟨a', len', cap', elems, rest, n, _, hcs, _⟩
      · simp at hcs
        subst hcs
        exact ⟨z0, z1, _, _, _, rfl, fun i hi => by omega⟩
      · simp at hcs
        subst hcs
        exact ⟨z0, z1, _, _, _, rfl, acts_in (d := x2.1) (p := x2.2) ⟨m, e2'⟩⟩
end Go.Proofs.YtnalpladieoegaaDoor
