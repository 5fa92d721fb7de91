/- A watch in memory: is there one; where a clock of a list lies. No condition but that it lies. -/
import Derived.Test.YtnalpladieoegaaDoorEnds
import Derived.WalkLawsBesides
namespace Go.Proofs.YtnalpladieoegaaDoor
open Go.RowKit Go.Shelf

/-- Block p is a watch, whose threads' clocks lie in block tb and whose places' in block pb. -/
structure Wt (w : World) (p tb pb : Nat) (th pl : List Ck) : Prop where
  st : w.heap[p]? = some (.cells #[.slice (some ⟨tb, 0, none⟩) th.length th.length, .slice (some ⟨pb, 0, none⟩) pl.length pl.length] 82 (0, 0))
  tc : Row w tb 68 th
  pc : Row w pb 68 pl
  npt : p ≠ tb
  npp : p ≠ pb
  ntp : tb ≠ pb
theorem Wt.ptl {w : World} {p tb pb : Nat} {th pl : List Ck} (h : Wt w p tb pb th pl) : p < w.heap.size := (Array.getElem?_eq_some_iff.1 h.st).1
theorem Wt.c0 {w : World} {p tb pb : Nat} {th pl : List Ck} (h : Wt w p tb pb th pl) : w.cell? ⟨p, 0, none⟩ = some (.slice (some ⟨tb, 0, none⟩) th.length th.length) := by simp [World.cell?, h.st]
theorem Wt.c1 {w : World} {p tb pb : Nat} {th pl : List Ck} (h : Wt w p tb pb th pl) : w.cell? ⟨p, 1, none⟩ = some (.slice (some ⟨pb, 0, none⟩) pl.length pl.length) := by simp [World.cell?, h.st]
theorem Wt.kept {w w' : World} {p tb pb : Nat} {th pl : List Ck} (h : Wt w p tb pb th pl) (hg : w.grownBy w' none) : Wt w' p tb pb th pl :=
  ⟨(hg.block p h.ptl (by simp)).trans h.st, h.tc.kept hg (by simp), h.pc.kept hg (by simp), h.npt, h.npp, h.ntp⟩
theorem Wt.below {w w' : World} {p tb pb : Nat} {th pl : List Ck} (h : Wt w p tb pb th pl) (hb : Below w.heap.size w w') : Wt w' p tb pb th pl :=
  h.kept ⟨hb.os, hb.tape, hb.output, hb.size, fun k hk _ => hb.block k hk⟩

set_option maxHeartbeats 400000 in
theorem there_any {w : World} {p tb pb : Nat} {th pl : List Ck} (h : Wt w p tb pb th pl) (hn : 0 < th.length) :
    Calls Tryd.prog 54 #[.pointer (some ⟨p, 0, none⟩)] w fun e w' => e = .returned (.bool true) ∧ w = w' := by
  have hc := h.c0
  have hl : (0 : Int) < (th.length : Int) := by omega
  go_enter Tryd.func54, Tryd.ntmps54
  go_wp2
  go_ret
  exact ⟨rfl, rfl⟩

set_option maxHeartbeats 400000 in
theorem there_nil (w : World) : Calls Tryd.prog 54 #[.pointer none] w fun e w' => e = .returned (.bool false) ∧ w = w' := by
  go_enter Tryd.func54, Tryd.ntmps54
  go_wp2
  go_ret
  exact ⟨rfl, rfl⟩

set_option maxHeartbeats 400000 in
theorem find_in (w : World) (b n i : Nat) (hi : i < n) (_hn : n ≤ 9223372036854775807) :
    Calls Tryd.prog 55 #[.slice (some ⟨b, 0, none⟩) n n, .int .i64 (i : Int)] w fun e w' => e = .returned (.tuple #[.pointer (some ⟨b, i * 8, none⟩), .int .i64 0]) ∧ w = w' := by
  go_enter Tryd.func55, Tryd.ntmps55
  go_wp2
  go_ret2
  exact ⟨rfl, rfl⟩

set_option maxHeartbeats 400000 in
theorem find_out (w : World) (b n : Nat) (i : Int) (hi : i < 0 ∨ (n : Int) ≤ i) :
    Calls Tryd.prog 55 #[.slice (some ⟨b, 0, none⟩) n n, .int .i64 i] w fun e w' => e = .returned (.tuple #[.pointer none, .int .i64 4]) ∧ w = w' := by
  by_cases h0 : i < 0
  · go_enter Tryd.func55, Tryd.ntmps55
    go_wp2
    go_ret2
    exact ⟨rfl, rfl⟩
  · have h1 : (n : Int) ≤ i := by omega
    clear hi
    go_enter Tryd.func55, Tryd.ntmps55
    go_wp2
    go_ret2
    exact ⟨rfl, rfl⟩
end Go.Proofs.YtnalpladieoegaaDoor
