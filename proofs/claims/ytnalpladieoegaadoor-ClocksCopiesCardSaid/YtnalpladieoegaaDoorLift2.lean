/- What the lifted proofs on plays share: a slice of calls opened. No condition. -/
import Derived.Test.YtnalpladieoegaaDoorLift
import Derived.Test.YtnalpladieoegaaDoorPlay
namespace Go.Proofs.YtnalpladieoegaaDoor
open Go.ChangeShapes Go.WideShapes Go.ChangeAt Go.RowKit

set_option maxRecDepth 100000 in
/-- A call out of its three cells. -/
theorem act_cells {H : Type} {enc : TypeId × Value → H} {W : World} {sp : Nat → Bool} {held : Bool} {fuel : Nat} {cs : List Value} {x : DataW H × List MemPlace} {base : Nat}
    (h : DataW.trod enc Tryd.prog W base sp held fuel 46 cs = some x) : ∃ a t n : Int, cs = [.int .i64 a, .int .i64 t, .int .i64 n] := by
  obtain ⟨xs, m, _, _, hlen, hl, hel⟩ := DataW.trod_struct Tryd.underlying46 h
  have c46 : Tryd.prog.cellsOf 46 = 3 := by kernel_rfl
  have c3 : Tryd.prog.cellsOf 3 = 1 := by kernel_rfl
  rw [c46] at hlen
  match cs, hlen with
  | [y0, y1, y2], _ =>
    match xs, hl with
    | [x0, x1, x2], _ =>
      have e0 : DataW.trod enc Tryd.prog W base sp held m 3 (([y0, y1, y2].drop 0).take (Tryd.prog.cellsOf 3)) = some x0 := hel 0 _ rfl
      have e1 : DataW.trod enc Tryd.prog W base sp held m 3 (([y0, y1, y2].drop 1).take (Tryd.prog.cellsOf 3)) = some x1 := hel 1 _ rfl
      have e2 : DataW.trod enc Tryd.prog W base sp held m 3 (([y0, y1, y2].drop 2).take (Tryd.prog.cellsOf 3)) = some x2 := hel 2 _ rfl
      rw [c3] at e0 e1 e2
      obtain ⟨z0, a0, _⟩ := DataW.trod_int Tryd.underlying3 e0
      obtain ⟨z1, a1, _⟩ := DataW.trod_int Tryd.underlying3 e1
      obtain ⟨z2, a2, _⟩ := DataW.trod_int Tryd.underlying3 e2
      simp at a0 a1 a2
      exact ⟨z0, z1, z2, by rw [a0, a1, a2]⟩

theorem addr_add (b off k : Nat) : (⟨b, off, none⟩ : Addr).add k = ⟨b, off + k, none⟩ := by unfold Addr.add; split <;> simp_all
theorem three_cells {W : World} {A : Addr} {c : List Value} (hc : W.cells? 0 A 3 = some c) : ∃ y0 y1 y2, c = [y0, y1, y2] ∧ W.cell? (A.add 0) = some y0 ∧ W.cell? (A.add 1) = some y1 ∧ W.cell? (A.add 2) = some y2 := by
  unfold World.cells? at hc
  split at hc
  · simp only [List.range_succ, List.range_zero, List.nil_append, List.cons_append, List.mapM_cons, List.mapM_nil, Option.bind_eq_bind, Option.bind_eq_some_iff, Option.pure_def, Option.some.injEq] at hc
    obtain ⟨y0, k0, _, ⟨y1, k1, _, ⟨y2, k2, _, rfl, rfl⟩, rfl⟩, rfl⟩ := hc
    exact ⟨y0, y1, y2, rfl, k0, k1, k2⟩
  · cases hc
theorem cell_lt {W : World} {b off : Nat} {v : Value} (h : W.cell? ⟨b, off, none⟩ = some v) : b < W.heap.size := by
  rcases Nat.lt_or_ge b W.heap.size with hb | hb
  · exact hb
  · simp [World.cell?, Array.getElem?_eq_none hb] at h

theorem acts_in {H : Type} {enc : TypeId × Value → H} {W : World} {a : Option Addr} {len cap : Nat} {p : List MemPlace} {d : DataW H}
    (h : DataW.Trod enc Tryd.prog W 0 (fun _ => true) true 36 (.slice a len cap) d p) : Acts W a len := by
  obtain ⟨fuel, h⟩ := h
  have c46 : Tryd.prog.cellsOf 46 = 3 := by kernel_rfl
  rcases DataW.trod_slice Tryd.underlying36 h with ⟨hcs, _⟩ | ⟨a', len', cap', elems, rest, n, _, hcs, _, _, _, _, hlen, hel, _⟩
  · simp only [Value.cells] at hcs
    simp at hcs
    obtain ⟨_, rfl, _⟩ := hcs
    intro i hi
    omega
  · simp only [Value.cells] at hcs
    simp at hcs
    obtain ⟨rfl, rfl, rfl⟩ := hcs
    rw [c46] at hel
    have hel' : ∀ i, i < len → ∃ x y z : Int, W.cell? ((a'.add (i * 3)).add 0) = some (.int .i64 x) ∧ W.cell? ((a'.add (i * 3)).add 1) = some (.int .i64 y) ∧ W.cell? ((a'.add (i * 3)).add 2) = some (.int .i64 z) := by
      intro i hi
      have hE := hel i hi
      rw [List.getElem?_eq_getElem (by omega)] at hE
      obtain ⟨c, hc, ht⟩ := Option.bind_eq_some_iff.1 hE
      obtain ⟨x, y, z, rfl⟩ := act_cells ht
      obtain ⟨y0, y1, y2, hcc, k0, k1, k2⟩ := three_cells hc
      simp only [List.cons.injEq, and_true] at hcc
      obtain ⟨rfl, rfl, rfl⟩ := hcc
      exact ⟨x, y, z, k0, k1, k2⟩
    intro i hi
    obtain ⟨b, off, spot⟩ := a'
    obtain ⟨_, _, _, k0', _⟩ := hel' 0 (by omega)
    have hspot : spot = none := by simpa [Addr.add] using World.cell?_spot k0'
    subst hspot
    obtain ⟨x, y, z, k0, k1, k2⟩ := hel' i hi
    simp only [addr_add] at k0 k1 k2
    rw [Nat.add_zero] at k0
    exact ⟨b, off, rfl, cell_lt k0, x, y, z, k0, k1, k2⟩
end Go.Proofs.YtnalpladieoegaaDoor
