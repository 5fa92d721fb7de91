/- The law on moves: any steps of the first threads, then any call. Asked: the numbers of steps lie there; the table of powers of ten is laid. -/
import Derived.Test.YtnalpladieoegaaDoorPlay
namespace Go.Proofs.YtnalpladieoegaaDoor
open Go.RowKit Go.Shelf

/-- The slice at a, of len elements, holds numbers. -/
def Ints (w : World) (a : Option Addr) (len : Nat) : Prop := ∀ i, i < len → ∃ b off, a = some ⟨b, off, none⟩ ∧ b < w.heap.size ∧ ∃ x : Int, w.cell? ⟨b, off + i, none⟩ = some (.int .i64 x)

theorem okC_z0 : okC z0 = true := okC_yes fun k _ => (by decide +kernel : okI 0 = true)
theorem tk_z0 : (tk z0 0).2 = 0 := by
  unfold tk
  rw [okC_z0]
  have h1 : ¬ ((0 : Int) < 0 ∨ (8 : Int) ≤ 0) := by omega
  have h2 : ¬ (z0 (Int.toNat 0) = most) := by decide +kernel
  rw [if_pos rfl, if_neg h1, if_neg h2]

/-- What stands between two steps: both watches in step, the document's in block s2, the call in block 0 of the law's own. -/
def Midst (w wr : World) (p tb pb s2 : Nat) (x y z : Int) : Prop :=
  ∃ (S1 S2 : Value) (th pl : List Ck), Two wr p tb pb (.agg #[S1, S2]) th pl ∧ th.length = 8 ∧ pl.length = 3 ∧ Below w.heap.size w wr ∧ Bx wr s2 S1 S2 ∧ Tx wr w.heap.size x y z

theorem mid_step {w w5 w7 : World} {p tb pb s2 a1 j1 a2 j2 : Nat} {S1 S2 : Value} {x y z : Int} {th' pl : List Ck} (hl : th'.length = 8) (hm : pl.length = 3)
    (hQ1 : RL w5 a1 j1 th') (hQ2 : RL w5 a2 j2 pl) (m1 : a1 ≠ tb) (m2 : a1 ≠ pb) (m3 : a2 ≠ tb) (m4 : a2 ≠ pb) (hE5 : Bx w5 s2 S1 S2) (hB5 : Below w.heap.size w w5) (hX5 : Tx w5 w.heap.size x y z)
    (d1 : w.heap.size < s2) (d2 : w.heap.size < tb) (d3 : w.heap.size < pb) (d4 : s2 ≠ tb) (d5 : s2 ≠ pb)
    (hW7 : Wt w7 p tb pb th' pl) (hk : Kp ((w5.setCell ⟨s2, 0, none⟩ (.slice (some ⟨a1, 0, none⟩) th'.length j1)).setCell ⟨s2, 1, none⟩ (.slice (some ⟨a2, 0, none⟩) pl.length j2)) w7 tb pb) :
    Midst w w7 p tb pb s2 x y z := by
  have hg := set2_grown w5 s2 (.slice (some ⟨a1, 0, none⟩) th'.length j1) (.slice (some ⟨a2, 0, none⟩) pl.length j2)
  have hE6 := hE5.set2 (.slice (some ⟨a1, 0, none⟩) th'.length j1) (.slice (some ⟨a2, 0, none⟩) pl.length j2)
  have hB6 := hB5.grown hg hB5.size (fun k e => by cases e; omega)
  have hX6 : Tx _ w.heap.size x y z := hX5.of (hg.block _ hX5.lt (nesome (by omega)))
  have hR1 := hQ1.kept hg (nesome (hQ1.ne_bx hE5))
  have hR2 := hQ2.kept hg (nesome (hQ2.ne_bx hE5))
  exact ⟨_, _, th', pl, ⟨hW7, a1, j1, a2, j2, rfl, hR1.keep hk m1 m2, hR2.keep hk m3 m4, m1, m2, m3, m4⟩, hl, hm, hk.to_below hB6 hB6.size (by omega) (by omega), hE6.keep hk d4 d5, hX6.of (hk.block _ hX6.lt (by omega) (by omega))⟩

set_option maxRecDepth 100000 in
set_option maxHeartbeats 4000000 in
theorem moves_any {w : World} {a : Option Addr} {len cap : Nat} {x y z : Int} (ha : Ints w a len) (ht : Tab w) (h0 : 0 < w.heap.size) :
    Calls Tryd.prog 8 #[.slice a len cap, .agg #[.int .i64 x, .int .i64 y, .int .i64 z]] w fun e w' => e = .returned (.bool true) ∧ Below w.heap.size w w' := by
  have hb0 : Below w.heap.size w (w.alloc (.cells #[.int .i64 x, .int .i64 y, .int .i64 z] 46)) := (Below.refl _ w).alloc (Nat.le_refl _) _
  have hx0 : Tx (w.alloc (.cells #[.int .i64 x, .int .i64 y, .int .i64 z] 46)) w.heap.size x y z := World.alloc_heap_new _ _
  by_cases hl : 8 < len
  · have hl' : (8 : Int) < (len : Int) := by omega
    go_enter Tryd.func8, Tryd.ntmps8
    go_wp2_with fail
    refine (works_any _ (ht.below hb0 h0) (by simp)).mono ?_
    rintro e w' ⟨rfl, hb⟩
    go_wp2
    go_ret
    exact ⟨rfl, hb0.trans (hb.mono hb0.size)⟩
  · have hl' : ¬ (8 : Int) < (len : Int) := by omega
    go_enter Tryd.func8, Tryd.ntmps8
    go_wp2_with fail
    change Calls _ _ _ (w.alloc (.cells #[.int .i64 x, .int .i64 y, .int .i64 z] 46)) _
    have sz0 := hb0.size
    generalize w.alloc (.cells #[.int .i64 x, .int .i64 y, .int .i64 z] 46) = W0 at *
    refine (new_in 8 3 W0 (by omega) (by omega) (by omega)).mono ?_
    rintro e w1 ⟨p, tb, pb, rfl, hW1, hb1, q1, q2, q3⟩
    go_wp2_with fail
    refine (rnew_in 8 3 w1 (by omega) (by omega) (by omega)).mono ?_
    rintro e w2 ⟨g1, g2, rfl, hR1, hR2, hb2, q4, q5⟩
    have hbx := hx0.lt
    have sz1 := hb1.size
    have sz2 := hb2.size
    have hB1 : Below w.heap.size w w1 := hb0.trans (hb1.mono sz0)
    have hB2 : Below w.heap.size w w2 := hB1.trans (hb2.mono (by omega))
    have hX2 := (hx0.belowS hb1).belowS hb2
    have hW2 := hW1.below hb2
    have hB3 := hB2.alloc hB2.size (.cells #[.slice (some ⟨g1, 0, none⟩) (8 : Nat) 8, .slice (some ⟨g2, 0, none⟩) (3 : Nat) 3] 41)
    have hW3 := hW2.kept (grown_alloc w2 (.cells #[.slice (some ⟨g1, 0, none⟩) (8 : Nat) 8, .slice (some ⟨g2, 0, none⟩) (3 : Nat) 3] 41))
    have hR13 := hR1.alloc (.cells #[.slice (some ⟨g1, 0, none⟩) (8 : Nat) 8, .slice (some ⟨g2, 0, none⟩) (3 : Nat) 3] 41)
    have hR23 := hR2.alloc (.cells #[.slice (some ⟨g1, 0, none⟩) (8 : Nat) 8, .slice (some ⟨g2, 0, none⟩) (3 : Nat) 3] 41)
    have hX3 := hX2.alloc (.cells #[.slice (some ⟨g1, 0, none⟩) (8 : Nat) 8, .slice (some ⟨g2, 0, none⟩) (3 : Nat) 3] 41)
    have hE3 := Bx.new w2 (.slice (some ⟨g1, 0, none⟩) (8 : Nat) 8) (.slice (some ⟨g2, 0, none⟩) (3 : Nat) 3)
    have z1 := hW1.ptl
    have z2 := hW1.tc.lt
    have z3 := hW1.pc.lt
    clear hR1 hR2 hX2 hW2 hB1 hB2 hb0 hx0 hb1 hb2 hW1
    obtain ⟨s2, hs2⟩ : ∃ s, w2.heap.size = s := ⟨_, rfl⟩
    go_wp2_with fail
    rw [hs2] at hE3
    generalize w2.alloc (.cells #[.slice (some ⟨g1, 0, none⟩) (8 : Nat) 8, .slice (some ⟨g2, 0, none⟩) (3 : Nat) 3] 41) = W3 at *
    have hM : Midst w W3 p tb pb s2 x y z := ⟨_, _, zs 8, zs 3, ⟨hW3, g1, 8, g2, 3, by rw [zs_len, zs_len], hR13, hR23, by omega, by omega, by omega, by omega⟩, zs_len 8, zs_len 3, hB3, hE3, hX3⟩
    clear hW3 hR13 hR23 hB3 hE3 hX3
    have d1 : w.heap.size < s2 := by omega
    have d2 : w.heap.size < tb := by omega
    have d3 : w.heap.size < pb := by omega
    have d4 : s2 ≠ tb := by omega
    have d5 : s2 ≠ pb := by omega
    have d6 : p ≠ s2 := by omega
    have HD : Hid (w.heap.size < s2 ∧ w.heap.size < tb ∧ w.heap.size < pb ∧ s2 ≠ tb ∧ s2 ≠ pb ∧ p ≠ s2) := ⟨d1, d2, d3, d4, d5, d6⟩
    clear d6 d1 d2 d3 d4 d5 q1 q2 q3 q4 q5 z1 z2 z3 sz0 sz1 sz2 hbx hs2
    go_loopw [9] (fun t wr => ∃ k : Nat, k ≤ len ∧ t = .int .i64 k ∧ Midst w wr p tb pb s2 x y z) (fun t _ => len - (intOf t).toNat)
    case atStart => exact ⟨0, by omega, rfl, hM⟩
    case round =>
      clear hM
      obtain ⟨k, hk, rfl, hM⟩ := hrel
      by_cases hlt : k < len
      · obtain ⟨b, off, rfl, hbl, n, c0⟩ := ha k hlt
        have hC : Hid (∀ W', Below w.heap.size w W' → W'.cell? ⟨b, off + k, none⟩ = some (.int .i64 n)) := fun W' hb =>
          (hb.cell (p := ⟨b, off + k, none⟩) hbl).trans c0
        clear c0
        obtain ⟨wo, rfl⟩ : ∃ wo : World, wo = wr := ⟨_, rfl⟩
        go_wp2_with fail
        go_loopw [10] (fun i wr => ∃ j : Nat, j ≤ 50 ∧ i = .int .i64 j ∧ Midst w wr p tb pb s2 x y z) (fun i _ => 50 - (intOf i).toNat)
        case atStart => exact ⟨0, by omega, rfl, hM⟩
        case round =>
          clear hM
          obtain ⟨j, hj, rfl, hM⟩ := hrel
          have hM0 : Hid (Midst w wr p tb pb s2 x y z) := hM
          obtain ⟨S1, S2, th, pl, ⟨hW, g1, k1, g2, k2, hv, hR1, hR2, n1, n2, n3, n4⟩, hthl, hpll, hB, hE, hX⟩ := hM
          simp only [Value.agg.injEq, Array.mk.injEq, List.cons.injEq, and_true] at hv
          obtain ⟨rfl, rfl⟩ := hv
          have cc := hC.out wr hB
          have hp0 : (0 : Int) ≤ (k : Int) := by omega
          have hp1 : (k : Int) < (len : Int) := by omega
          by_cases hn : (j : Int) < n
          · by_cases hj5 : (j : Int) < 50
            · obtain ⟨th', c, e, hS⟩ := St.total k th
              have b0 := hE.c0
              have b1 := hE.c1
              have HL : Hid (th.length = 8 ∧ pl.length = 3) := ⟨hthl, hpll⟩
              have e8 : th.length ≤ 8 := by omega
              have e0 : 0 < th.length := by omega
              clear hthl hpll
              go_wp2_with fail
              refine (rstep_st hR1 hR2 hS e8).mono ?_
              rintro x5 w5 ⟨v, rfl, ⟨a1, j1, a2, j2, rfl, hQ1, hQ2, r1, r2⟩, hb5⟩
              have sz5 := hB.size
              have y1 := hW.tc.lt
              have y2 := hW.pc.lt
              have hE5 := hE.belowS hb5
              have hX5 := hX.belowS hb5
              have hB5 := hB.trans (hb5.mono sz5)
              have hW5 := hW.below hb5
              have m : a1 ≠ tb ∧ a1 ≠ pb ∧ a2 ≠ tb ∧ a2 ≠ pb := by omega
              have HM : Hid (a1 ≠ tb ∧ a1 ≠ pb ∧ a2 ≠ tb ∧ a2 ≠ pb) := m
              have HLT : Hid (th'.length = 8) := hS.len.trans HL.out.1
              have f0 := hE5.frozen 0
              have f1 := hE5.frozen 1
              clear m r1 r2 hb5 hW hR1 hR2 hE hX hB b0 b1 y1 y2 sz5 n1 n2 n3 n4 cc
              have b0 := hE5.c0
              have b1 := hE5.c1
              go_wp2_with fail
              have hg := set2_grown w5 s2 (.slice (some ⟨a1, 0, none⟩) th'.length j1) (.slice (some ⟨a2, 0, none⟩) pl.length j2)
              have hW6 := hW5.newSet hg (by have := HD.out; omega) (by have := HD.out; omega) (by have := HD.out; omega)
              refine (step_st hW6 hS e0 e8).mono ?_
              rintro x7 w7 ⟨rfl, hW7, hk7⟩
              have hM7 := mid_step HLT.out HL.out.2 hQ1 hQ2 HM.out.1 HM.out.2.1 HM.out.2.2.1 HM.out.2.2.2 hE5 hB5 hX5 HD.out.1 HD.out.2.1 HD.out.2.2.1 HD.out.2.2.2.1 HD.out.2.2.2.2.1 hW7 hk7
              clear hg hW6 hW7 hk7 hQ1 hQ2 hE5 hB5 hX5 b0 b1 f0 f1 hM0 hS hW5 e0 e8
              go_wp2
              go_roundw
              case rel => exact ⟨j + 1, by omega, by go_num, hM7⟩
              case measure => simp [intOf]; omega
            · clear hW hR1 hR2 hE hX hB hthl hpll
              go_wp2
              go_roundw
              case rel => exact ⟨k + 1, by omega, by go_num, hM0.out⟩
              case measure => simp [intOf]; omega
          · clear hW hR1 hR2 hE hX hB hthl hpll
            go_wp2
            go_roundw
            case rel => exact ⟨k + 1, by omega, by go_num, hM0.out⟩
            case measure => simp [intOf]; omega
      · obtain rfl : k = len := by omega
        obtain ⟨S1, S2, th, pl, ⟨hW, g1, k1, g2, k2, hv, hR1, hR2, n1, n2, n3, n4⟩, hthl, hpll, hB, hE, hX⟩ := hM
        simp only [Value.agg.injEq, Array.mk.injEq, List.cons.injEq, and_true] at hv
        obtain ⟨rfl, rfl⟩ := hv
        have b0 := hE.c0
        have b1 := hE.c1
        have t0 := hX.c0
        have t1 := hX.c1
        have t2 := hX.c2
        have HL : Hid (th.length = 8 ∧ pl.length = 3) := ⟨hthl, hpll⟩
        have e8 : th.length ≤ 8 := by omega
        have e0 : 0 < th.length := by omega
        have em : pl.length ≤ 65536 := by omega
        clear hthl hpll
        have hT : Two wr p tb pb (.agg #[.slice (some ⟨g1, 0, none⟩) th.length k1, .slice (some ⟨g2, 0, none⟩) pl.length k2]) th pl := ⟨hW, g1, k1, g2, k2, rfl, hR1, hR2, n1, n2, n3, n4⟩
        go_wp2_with fail
        refine (act_any hT x y z e0 e8 em).mono ?_
        rintro e5 w5 ⟨v', th', pl', rfl, hT5, hN5, hk5⟩
        have sz := hB.size
        have y1 := hW.tc.lt
        have y2 := hW.pc.lt
        have hB5 := hk5.to_below hB sz (by have := HD.out; omega) (by have := HD.out; omega)
        have hL' := hN5.len
        have e8' : th'.length ≤ 8 := by omega
        have e0' : 0 < th'.length := by omega
        have em' : pl'.length ≤ 65536 := by omega
        have sz5 := hk5.size
        clear hL' hN5 hk5 hT hW hR1 hR2 hE hX hB b0 b1 t0 t1 t2 n1 n2 n3 n4 y1 y2 e0 e8 em
        obtain ⟨hW5, a1, j1, a2, j2, rfl, hQ1, hQ2, m1, m2, m3, m4⟩ := hT5
        go_wp2_with fail
        change Calls _ _ #[.agg (cl z0), .int .i64 0] (w5.alloc (.cells #[.slice (some ⟨a1, 0, none⟩) th'.length j1, .slice (some ⟨a2, 0, none⟩) pl'.length j2] 41)) _
        have hB6 := hB5.alloc hB5.size (.cells #[.slice (some ⟨a1, 0, none⟩) th'.length j1, .slice (some ⟨a2, 0, none⟩) pl'.length j2] 41)
        have hW6 := hW5.kept (grown_alloc w5 (.cells #[.slice (some ⟨a1, 0, none⟩) th'.length j1, .slice (some ⟨a2, 0, none⟩) pl'.length j2] 41))
        have hR1 := hQ1.alloc (.cells #[.slice (some ⟨a1, 0, none⟩) th'.length j1, .slice (some ⟨a2, 0, none⟩) pl'.length j2] 41)
        have hR2 := hQ2.alloc (.cells #[.slice (some ⟨a1, 0, none⟩) th'.length j1, .slice (some ⟨a2, 0, none⟩) pl'.length j2] 41)
        have hE := Bx.new w5 (.slice (some ⟨a1, 0, none⟩) th'.length j1) (.slice (some ⟨a2, 0, none⟩) pl'.length j2)
        clear hW5 hQ1 hQ2 hB5
        generalize w5.alloc (.cells #[.slice (some ⟨a1, 0, none⟩) th'.length j1, .slice (some ⟨a2, 0, none⟩) pl'.length j2] 41) = w6 at *
        refine (Tick_any z0 0 w6).mono ?_
        rw [tk_z0]
        rintro e7 w7 ⟨rfl, hb7⟩
        have hB7 := hB6.trans (hb7.mono hB6.size)
        have hE7 := hE.belowS hb7
        have hT7 : Two w7 p tb pb (.agg #[.slice (some ⟨a1, 0, none⟩) th'.length j1, .slice (some ⟨a2, 0, none⟩) pl'.length j2]) th' pl' := ⟨hW6.below hb7, a1, j1, a2, j2, rfl, hR1.belowS hb7, hR2.belowS hb7, m1, m2, m3, m4⟩
        clear hW6 hR1 hR2 hE hB6 hb7 m1 m2 m3 m4
        have hB8 := hB7.alloc hB7.size (.cells (cl (tk z0 0).1) 23)
        have hE8 := hE7.alloc (.cells (cl (tk z0 0).1) 23)
        have hT8 : Two (w7.alloc (.cells (cl (tk z0 0).1) 23)) p tb pb (.agg #[.slice (some ⟨a1, 0, none⟩) th'.length j1, .slice (some ⟨a2, 0, none⟩) pl'.length j2]) th' pl' := by
          obtain ⟨hW, a1', j1', a2', j2', hv, hQ1, hQ2, m1, m2, m3, m4⟩ := hT7
          exact ⟨hW.kept (grown_alloc w7 _), a1', j1', a2', j2', hv, hQ1.alloc _, hQ2.alloc _, m1, m2, m3, m4⟩
        clear hB7 hE7 hT7
        have b0 := hE8.c0
        have b1 := hE8.c1
        have HE : Hid (Bx (w7.alloc (.cells (cl (tk z0 0).1) 23)) w5.heap.size (.slice (some ⟨a1, 0, none⟩) th'.length j1) (.slice (some ⟨a2, 0, none⟩) pl'.length j2)) := hE8
        clear hE8
        generalize (tk z0 0).1 = d at *
        go_wp2_with fail
        change Calls _ _ _ (w7.alloc (.cells (cl d) 23)) _
        generalize w7.alloc (.cells (cl d) 23) = w8 at *
        refine (num_any _ _).mono ?_
        rintro e _ ⟨rfl, rfl⟩
        go_wp2_with fail
        refine (num_any _ _).mono ?_
        rintro e _ ⟨rfl, rfl⟩
        go_wp2_with fail
        refine (is_any hT8 e0' e8' em').mono ?_
        rintro e w9 ⟨rfl, hb9⟩
        have hB9 := hB8.trans (hb9.mono hB8.size)
        clear hT8 hb9 hB8 b0 b1
        go_wp2_with fail
        refine (works_any _ (ht.below hB9 h0) (by have := hB9.size; omega)).mono ?_
        rintro e w' ⟨rfl, hb⟩
        go_wp2
        go_ret
        exact ⟨rfl, hB9.trans (hb.mono hB9.size)⟩
end Go.Proofs.YtnalpladieoegaaDoor
