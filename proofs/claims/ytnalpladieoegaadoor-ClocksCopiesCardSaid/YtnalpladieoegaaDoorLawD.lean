/- The law on plays. Asked: the calls lie there; the table of powers of ten is laid. -/
import Derived.Test.YtnalpladieoegaaDoorPlay
namespace Go.Proofs.YtnalpladieoegaaDoor
open Go.RowKit Go.Shelf

theorem small_or (n m : Int) (len : Nat) : (n < 1 ∨ 8 < n ∨ m < 0 ∨ 20 < m ∨ 100 < (len : Int)) ∨ ∃ n' m' : Nat, n = (n' : Int) ∧ m = (m' : Int) ∧ 1 ≤ n' ∧ n' ≤ 8 ∧ m' ≤ 20 ∧ len ≤ 100 := by
  by_cases h : n < 1 ∨ 8 < n ∨ m < 0 ∨ 20 < m ∨ 100 < (len : Int)
  · exact .inl h
  · exact .inr ⟨n.toNat, m.toNat, by omega, by omega, by omega, by omega, by omega, by omega⟩

set_option maxRecDepth 100000 in
set_option maxHeartbeats 2000000 in
theorem plays_any {w : World} {n m : Int} {a : Option Addr} {len cap : Nat} (ha : Acts w a len) (ht : Tab w) (h0 : 0 < w.heap.size) :
    Calls Tryd.prog 7 #[.int .i64 n, .int .i64 m, .slice a len cap] w fun e w' => e = .returned (.bool true) ∧ Below w.heap.size w w' := by
  rcases small_or n m len with hs | ⟨n', m', rfl, rfl, e1, e2, e3, e4⟩
  · have c1 := small_no w n m a len cap hs
    clear hs
    go_enter Tryd.func7, Tryd.ntmps7
    go_wp2_with fail
    refine c1.mono ?_
    rintro e w' ⟨rfl, rfl⟩
    go_wp2_with fail
    refine (works_any _ ht h0).mono ?_
    rintro e w' ⟨rfl, hb⟩
    go_wp2
    go_ret
    exact ⟨rfl, hb⟩
  · have c1 := small_yes w n' m' a len cap (by omega) (by omega) (by omega) (by omega) (by omega)
    go_enter Tryd.func7, Tryd.ntmps7
    go_wp2_with fail
    refine c1.mono ?_
    rintro e w' ⟨rfl, rfl⟩
    go_wp2_with fail
    refine (played_any ha e1 e2 e3 e4).mono ?_
    rintro e w1 ⟨p, tb, pb, v, th, pl, rfl, ⟨hW, g1, k1, g2, k2, rfl, hx⟩, hy, hz, hB1, hu⟩
    clear hW hx hy hz hu
    have hB2 := hB1.alloc hB1.size (.cells #[.slice (some ⟨g1, 0, none⟩) th.length k1, .slice (some ⟨g2, 0, none⟩) pl.length k2] 41)
    go_wp2_with fail
    refine (works_any _ (ht.below hB2 h0) (by have := hB2.size; omega)).mono ?_
    rintro e w' ⟨rfl, hb⟩
    go_wp2
    go_ret
    exact ⟨rfl, hB2.trans (hb.mono hB2.size)⟩
end Go.Proofs.YtnalpladieoegaaDoor
