/- The program's Same. Asked: the modules lie. -/
import Derived.Test.YtjbinejaagpleaaDoorRefO
namespace Go.Proofs.YtjbinejaagpleaaDoor
open Go.RowKit

set_option maxRecDepth 100000 in
set_option maxHeartbeats 4000000 in
theorem eqlongs_any {w : World} {a b : Option Addr} {l l' : List Int} {n n' c c' : Nat} (hn : l.length = n) (hn' : l'.length = n') (hm : n ≤ 281474976710656) (hI : Ints w a l) (hI' : Ints w b l') :
    Calls Tryd.prog 42 #[.slice a n c, .slice b n' c'] w fun e w' => e = .returned (.bool (decide (l = l'))) ∧ Below w.heap.size w w' := by
  by_cases hnn : n = n'
  · subst hnn
    have hne : ((n : Int) != (n : Int)) = false := by simp
    have hmx : Tryd.prog.follows .mixedOrders = true := by kernel_rfl
    have HN := Lib.hid hn
    have HN' := Lib.hid hn'
    have HI := Lib.hid hI
    have HI' := Lib.hid hI'
    clear hn hn' hI hI'
    go_enter Tryd.func42, Tryd.ntmps42
    go_wp2_with fail
    go_loopw [13] (fun x wr => ∃ k : Nat, k ≤ n ∧ x = .int .i64 k ∧ Hid (∀ j, j < k → l.getD j 0 = l'.getD j 0) ∧ Hid (Below w.heap.size w wr)) (fun x _ => n - (intOf x).toNat)
    case atStart => exact ⟨0, Nat.zero_le _, rfl, Lib.hid (fun j hj => by omega), Lib.hid (Below.refl _ _)⟩
    case round =>
      obtain ⟨k, hk, rfl, HJ, HB⟩ := hrel
      by_cases hkn : k < n
      · have hki : (k : Int) < (n : Int) := by omega
        obtain ⟨b1, o1, rfl, y0⟩ := (HI.out.below HB.out (Nat.le_refl _)) k (by rw [HN.out]; exact hkn)
        obtain ⟨b2, o2, rfl, y1⟩ := (HI'.out.below HB.out (Nat.le_refl _)) k (by rw [HN'.out]; exact hkn)
        obtain ⟨x, hx⟩ : ∃ x, l.getD k 0 = x := ⟨_, rfl⟩
        obtain ⟨y, hy⟩ : ∃ y, l'.getD k 0 = y := ⟨_, rfl⟩
        rw [hx] at y0
        rw [hy] at y1
        have HX := Lib.hid hx
        have HY := Lib.hid hy
        clear hx hy
        go_wp2_with fail
        refine wp_region_x [] (fun W => W.cell? ⟨b1, o1 + k, none⟩ = some (.int .i64 x) ∧ W.cell? ⟨b2, o2 + k, none⟩ = some (.int .i64 y)) hmx ?_
        have hS0 : wr.drew.cell? ⟨b1, o1 + k, none⟩ = some (.int .i64 x) ∧ wr.drew.cell? ⟨b2, o2 + k, none⟩ = some (.int .i64 y) := ⟨y0, y1⟩
        refine wpX_take 0 (v := ?va0) rfl (by kernel_rfl) (by kernel_rfl) (by kernel_rfl) (by kernel_rfl) (fun _ _ _ h => h) hS0 (Or.inl ⟨by kernel_rfl, ?a0⟩) ?_
        case a0 => (intro W2 hS1; obtain ⟨s0, s1⟩ := hS1; go_simp; with_reducible rfl)
        refine wpX_take 1 (v := ?va1) rfl (by kernel_rfl) (by kernel_rfl) (by kernel_rfl) (by kernel_rfl) (fun _ _ _ h => h) hS0 (Or.inl ⟨by kernel_rfl, ?a1⟩) ?_
        case a1 => (intro W2 hS1; obtain ⟨s0, s1⟩ := hS1; go_simp; with_reducible rfl)
        refine wpX_take 2 (v := ?va2) rfl (by kernel_rfl) (by kernel_rfl) (by kernel_rfl) (by kernel_rfl) (fun _ _ _ h => h) hS0 (Or.inl ⟨by kernel_rfl, ?a2⟩) ?_
        case a2 => (intro W2 hS1; obtain ⟨s0, s1⟩ := hS1; go_simp; with_reducible rfl)
        refine wpX_take 3 (v := ?va3) rfl (by kernel_rfl) (by kernel_rfl) (by kernel_rfl) (by kernel_rfl) (fun _ _ _ h => h) hS0 (Or.inl ⟨by kernel_rfl, ?a3⟩) ?_
        case a3 => (intro W2 hS1; obtain ⟨s0, s1⟩ := hS1; go_simp; with_reducible rfl)
        refine wpX_take 4 (v := ?va4) rfl (by kernel_rfl) (by kernel_rfl) (by kernel_rfl) (by kernel_rfl) (fun _ _ _ h => h) hS0 (Or.inl ⟨by kernel_rfl, ?a4⟩) ?_
        case a4 => (intro W2 hS1; obtain ⟨s0, s1⟩ := hS1; go_simp; with_reducible rfl)
        refine wpX_take 5 (v := ?va5) rfl (by kernel_rfl) (by kernel_rfl) (by kernel_rfl) (by kernel_rfl) (fun _ _ _ h => h) hS0 (Or.inl ⟨by kernel_rfl, ?a5⟩) ?_
        case a5 => (intro W2 hS1; obtain ⟨s0, s1⟩ := hS1; go_simp; with_reducible rfl)
        refine wpX_take 6 (v := ?va6) rfl (by kernel_rfl) (by kernel_rfl) (by kernel_rfl) (by kernel_rfl) (fun _ _ _ h => h) hS0 (Or.inl ⟨by kernel_rfl, ?a6⟩) ?_
        case a6 => (intro W2 hS1; obtain ⟨s0, s1⟩ := hS1; go_simp; with_reducible rfl)
        refine wpX_take 7 (v := ?va7) rfl (by kernel_rfl) (by kernel_rfl) (by kernel_rfl) (by kernel_rfl) (fun _ _ _ h => h) hS0 (Or.inl ⟨by kernel_rfl, ?a7⟩) ?_
        case a7 => (intro W2 hS1; obtain ⟨s0, s1⟩ := hS1; go_simp; with_reducible rfl)
        refine wpX_take 8 (v := ?va8) rfl (by kernel_rfl) (by kernel_rfl) (by kernel_rfl) (by kernel_rfl) (fun _ _ _ h => h) hS0 (Or.inl ⟨by kernel_rfl, ?a8⟩) ?_
        case a8 => (intro W2 hS1; obtain ⟨s0, s1⟩ := hS1; go_simp; with_reducible rfl)
        refine wpX_done (by kernel_rfl) ?_ _
        go_simp
        have HB2 := Lib.hid HB.out.drew
        clear hS0 y0 y1 HB
        by_cases hxy : x = y
        · have hxy' : (x != y) = false := by rw [bne_eq_false_iff_eq]; exact hxy
          have HXY := Lib.hid hxy
          clear hxy
          go_wp2
          case roundEnd =>
            refine ⟨⟨k + 1, by omega, by go_num, Lib.hid (fun j hj => ?_), HB2⟩, by simp [intOf]; omega⟩
            rcases Nat.lt_or_ge j k with h | h
            · exact HJ.out j h
            · obtain rfl : j = k := by omega
              rw [HX.out, HY.out, HXY.out]
        · have hxy' : (x != y) = true := by rw [bne_iff_ne]; exact hxy
          have HXY := Lib.hid hxy
          clear hxy
          go_wp2
          go_ret
          refine ⟨?_, HB2.out⟩
          rw [decide_eq_false (fun e => HXY.out (by rw [← HX.out, ← HY.out, e]))]
          rfl
      · obtain rfl : k = n := by omega
        go_wp2
        go_ret
        refine ⟨?_, HB.out⟩
        rw [decide_eq_true (getD_ext (d := 0) (HN.out.trans HN'.out.symm) (fun j hj => HJ.out j (by rw [← HN.out]; exact hj)))]
        rfl
  · have hne : ((n : Int) != (n' : Int)) = true := by rw [bne_iff_ne]; omega
    have HH : Hid (l ≠ l') := Lib.hid (fun e => hnn (by rw [← hn, ← hn', e]))
    clear hI hI' hn hn' hnn
    go_enter Tryd.func42, Tryd.ntmps42
    go_wp2
    go_ret
    exact ⟨by rw [decide_eq_false HH.out]; rfl, Below.refl _ _⟩
set_option maxRecDepth 100000 in
set_option maxHeartbeats 4000000 in
theorem eqints_any {w : World} {a b : Option Addr} {l l' : List Int} {n n' c c' : Nat} (hn : l.length = n) (hn' : l'.length = n') (hm : n ≤ 281474976710656) (hI : Ints w a l) (hI' : Ints w b l') :
    Calls Tryd.prog 43 #[.slice a n c, .slice b n' c'] w fun e w' => e = .returned (.bool (decide (l = l'))) ∧ Below w.heap.size w w' := by
  by_cases hnn : n = n'
  · subst hnn
    have hne : ((n : Int) != (n : Int)) = false := by simp
    have hmx : Tryd.prog.follows .mixedOrders = true := by kernel_rfl
    have HN := Lib.hid hn
    have HN' := Lib.hid hn'
    have HI := Lib.hid hI
    have HI' := Lib.hid hI'
    clear hn hn' hI hI'
    go_enter Tryd.func43, Tryd.ntmps43
    go_wp2_with fail
    go_loopw [13] (fun x wr => ∃ k : Nat, k ≤ n ∧ x = .int .i64 k ∧ Hid (∀ j, j < k → l.getD j 0 = l'.getD j 0) ∧ Hid (Below w.heap.size w wr)) (fun x _ => n - (intOf x).toNat)
    case atStart => exact ⟨0, Nat.zero_le _, rfl, Lib.hid (fun j hj => by omega), Lib.hid (Below.refl _ _)⟩
    case round =>
      obtain ⟨k, hk, rfl, HJ, HB⟩ := hrel
      by_cases hkn : k < n
      · have hki : (k : Int) < (n : Int) := by omega
        obtain ⟨b1, o1, rfl, y0⟩ := (HI.out.below HB.out (Nat.le_refl _)) k (by rw [HN.out]; exact hkn)
        obtain ⟨b2, o2, rfl, y1⟩ := (HI'.out.below HB.out (Nat.le_refl _)) k (by rw [HN'.out]; exact hkn)
        obtain ⟨x, hx⟩ : ∃ x, l.getD k 0 = x := ⟨_, rfl⟩
        obtain ⟨y, hy⟩ : ∃ y, l'.getD k 0 = y := ⟨_, rfl⟩
        rw [hx] at y0
        rw [hy] at y1
        have HX := Lib.hid hx
        have HY := Lib.hid hy
        clear hx hy
        go_wp2_with fail
        refine wp_region_x [] (fun W => W.cell? ⟨b1, o1 + k, none⟩ = some (.int .i64 x) ∧ W.cell? ⟨b2, o2 + k, none⟩ = some (.int .i64 y)) hmx ?_
        have hS0 : wr.drew.cell? ⟨b1, o1 + k, none⟩ = some (.int .i64 x) ∧ wr.drew.cell? ⟨b2, o2 + k, none⟩ = some (.int .i64 y) := ⟨y0, y1⟩
        refine wpX_take 0 (v := ?va0) rfl (by kernel_rfl) (by kernel_rfl) (by kernel_rfl) (by kernel_rfl) (fun _ _ _ h => h) hS0 (Or.inl ⟨by kernel_rfl, ?a0⟩) ?_
        case a0 => (intro W2 hS1; obtain ⟨s0, s1⟩ := hS1; go_simp; with_reducible rfl)
        refine wpX_take 1 (v := ?va1) rfl (by kernel_rfl) (by kernel_rfl) (by kernel_rfl) (by kernel_rfl) (fun _ _ _ h => h) hS0 (Or.inl ⟨by kernel_rfl, ?a1⟩) ?_
        case a1 => (intro W2 hS1; obtain ⟨s0, s1⟩ := hS1; go_simp; with_reducible rfl)
        refine wpX_take 2 (v := ?va2) rfl (by kernel_rfl) (by kernel_rfl) (by kernel_rfl) (by kernel_rfl) (fun _ _ _ h => h) hS0 (Or.inl ⟨by kernel_rfl, ?a2⟩) ?_
        case a2 => (intro W2 hS1; obtain ⟨s0, s1⟩ := hS1; go_simp; with_reducible rfl)
        refine wpX_take 3 (v := ?va3) rfl (by kernel_rfl) (by kernel_rfl) (by kernel_rfl) (by kernel_rfl) (fun _ _ _ h => h) hS0 (Or.inl ⟨by kernel_rfl, ?a3⟩) ?_
        case a3 => (intro W2 hS1; obtain ⟨s0, s1⟩ := hS1; go_simp; with_reducible rfl)
        refine wpX_take 4 (v := ?va4) rfl (by kernel_rfl) (by kernel_rfl) (by kernel_rfl) (by kernel_rfl) (fun _ _ _ h => h) hS0 (Or.inl ⟨by kernel_rfl, ?a4⟩) ?_
        case a4 => (intro W2 hS1; obtain ⟨s0, s1⟩ := hS1; go_simp; with_reducible rfl)
        refine wpX_take 5 (v := ?va5) rfl (by kernel_rfl) (by kernel_rfl) (by kernel_rfl) (by kernel_rfl) (fun _ _ _ h => h) hS0 (Or.inl ⟨by kernel_rfl, ?a5⟩) ?_
        case a5 => (intro W2 hS1; obtain ⟨s0, s1⟩ := hS1; go_simp; with_reducible rfl)
        refine wpX_take 6 (v := ?va6) rfl (by kernel_rfl) (by kernel_rfl) (by kernel_rfl) (by kernel_rfl) (fun _ _ _ h => h) hS0 (Or.inl ⟨by kernel_rfl, ?a6⟩) ?_
        case a6 => (intro W2 hS1; obtain ⟨s0, s1⟩ := hS1; go_simp; with_reducible rfl)
        refine wpX_take 7 (v := ?va7) rfl (by kernel_rfl) (by kernel_rfl) (by kernel_rfl) (by kernel_rfl) (fun _ _ _ h => h) hS0 (Or.inl ⟨by kernel_rfl, ?a7⟩) ?_
        case a7 => (intro W2 hS1; obtain ⟨s0, s1⟩ := hS1; go_simp; with_reducible rfl)
        refine wpX_take 8 (v := ?va8) rfl (by kernel_rfl) (by kernel_rfl) (by kernel_rfl) (by kernel_rfl) (fun _ _ _ h => h) hS0 (Or.inl ⟨by kernel_rfl, ?a8⟩) ?_
        case a8 => (intro W2 hS1; obtain ⟨s0, s1⟩ := hS1; go_simp; with_reducible rfl)
        refine wpX_done (by kernel_rfl) ?_ _
        go_simp
        have HB2 := Lib.hid HB.out.drew
        clear hS0 y0 y1 HB
        by_cases hxy : x = y
        · have hxy' : (x != y) = false := by rw [bne_eq_false_iff_eq]; exact hxy
          have HXY := Lib.hid hxy
          clear hxy
          go_wp2
          case roundEnd =>
            refine ⟨⟨k + 1, by omega, by go_num, Lib.hid (fun j hj => ?_), HB2⟩, by simp [intOf]; omega⟩
            rcases Nat.lt_or_ge j k with h | h
            · exact HJ.out j h
            · obtain rfl : j = k := by omega
              rw [HX.out, HY.out, HXY.out]
        · have hxy' : (x != y) = true := by rw [bne_iff_ne]; exact hxy
          have HXY := Lib.hid hxy
          clear hxy
          go_wp2
          go_ret
          refine ⟨?_, HB2.out⟩
          rw [decide_eq_false (fun e => HXY.out (by rw [← HX.out, ← HY.out, e]))]
          rfl
      · obtain rfl : k = n := by omega
        go_wp2
        go_ret
        refine ⟨?_, HB.out⟩
        rw [decide_eq_true (getD_ext (d := 0) (HN.out.trans HN'.out.symm) (fun j hj => HJ.out j (by rw [← HN.out]; exact hj)))]
        rfl
  · have hne : ((n : Int) != (n' : Int)) = true := by rw [bne_iff_ne]; omega
    have HH : Hid (l ≠ l') := Lib.hid (fun e => hnn (by rw [← hn, ← hn', e]))
    clear hI hI' hn hn' hnn
    go_enter Tryd.func43, Tryd.ntmps43
    go_wp2
    go_ret
    exact ⟨by rw [decide_eq_false HH.out]; rfl, Below.refl _ _⟩
set_option maxRecDepth 100000 in
set_option maxHeartbeats 4000000 in
theorem eqins_any {w : World} {a b : Option Addr} {l l' : List InsP} {n n' c c' : Nat} (hn : l.length = n) (hn' : l'.length = n') (hm : n ≤ 281474976710656) (hI : Inss w a l) (hI' : Inss w b l') :
    Calls Tryd.prog 46 #[.slice a n c, .slice b n' c'] w fun e w' => e = .returned (.bool (decide (l = l'))) ∧ Below w.heap.size w w' := by
  by_cases hnn : n = n'
  · subst hnn
    have hne : ((n : Int) != (n : Int)) = false := by simp
    have hmx : Tryd.prog.follows .mixedOrders = true := by kernel_rfl
    have HN := Lib.hid hn
    have HN' := Lib.hid hn'
    have HI := Lib.hid hI
    have HI' := Lib.hid hI'
    clear hn hn' hI hI'
    go_enter Tryd.func46, Tryd.ntmps46
    go_wp2_with fail
    go_loopw [13] (fun x wr => ∃ k : Nat, k ≤ n ∧ x = .int .i64 k ∧ Hid (∀ j, j < k → l.getD j default = l'.getD j default) ∧ Hid (Below w.heap.size w wr)) (fun x _ => n - (intOf x).toNat)
    case atStart => exact ⟨0, Nat.zero_le _, rfl, Lib.hid (fun j hj => by omega), Lib.hid (Below.refl _ _)⟩
    case round =>
      obtain ⟨k, hk, rfl, HJ, HB⟩ := hrel
      by_cases hkn : k < n
      · have hki : (k : Int) < (n : Int) := by omega
        obtain ⟨b1, o1, rfl, y0, y1, y2, y3⟩ := (HI.out.below HB.out (Nat.le_refl _)) k (by rw [HN.out]; exact hkn)
        obtain ⟨b2, o2, rfl, z0, z1, z2, z3⟩ := (HI'.out.below HB.out (Nat.le_refl _)) k (by rw [HN'.out]; exact hkn)
        obtain ⟨x, hx⟩ : ∃ x, l.getD k default = x := ⟨_, rfl⟩
        obtain ⟨y, hy⟩ : ∃ y, l'.getD k default = y := ⟨_, rfl⟩
        rw [hx] at y0 y1 y2 y3
        rw [hy] at z0 z1 z2 z3
        have HX := Lib.hid hx
        have HY := Lib.hid hy
        obtain ⟨xc, xa, xb, xn⟩ := x
        obtain ⟨yc, ya, yb, yn⟩ := y
        dsimp only at y0 y1 y2 y3 z0 z1 z2 z3
        clear hx hy
        go_wp2_with fail
        refine wp_region_x [] (fun W => W.cell? ⟨b1, o1 + k * 4, none⟩ = some (.int .i64 xc) ∧ W.cell? ⟨b1, o1 + k * 4 + 1, none⟩ = some (.int .i64 xa) ∧ W.cell? ⟨b1, o1 + k * 4 + 2, none⟩ = some (.int .i64 xb) ∧ W.cell? ⟨b1, o1 + k * 4 + 3, none⟩ = some (.int .i64 xn) ∧ W.cell? ⟨b2, o2 + k * 4, none⟩ = some (.int .i64 yc) ∧ W.cell? ⟨b2, o2 + k * 4 + 1, none⟩ = some (.int .i64 ya) ∧ W.cell? ⟨b2, o2 + k * 4 + 2, none⟩ = some (.int .i64 yb) ∧ W.cell? ⟨b2, o2 + k * 4 + 3, none⟩ = some (.int .i64 yn)) hmx ?_
        have hS0 : wr.drew.cell? ⟨b1, o1 + k * 4, none⟩ = some (.int .i64 xc) ∧ wr.drew.cell? ⟨b1, o1 + k * 4 + 1, none⟩ = some (.int .i64 xa) ∧ wr.drew.cell? ⟨b1, o1 + k * 4 + 2, none⟩ = some (.int .i64 xb) ∧ wr.drew.cell? ⟨b1, o1 + k * 4 + 3, none⟩ = some (.int .i64 xn) ∧ wr.drew.cell? ⟨b2, o2 + k * 4, none⟩ = some (.int .i64 yc) ∧ wr.drew.cell? ⟨b2, o2 + k * 4 + 1, none⟩ = some (.int .i64 ya) ∧ wr.drew.cell? ⟨b2, o2 + k * 4 + 2, none⟩ = some (.int .i64 yb) ∧ wr.drew.cell? ⟨b2, o2 + k * 4 + 3, none⟩ = some (.int .i64 yn) := ⟨y0, y1, y2, y3, z0, z1, z2, z3⟩
        refine wpX_take 0 (v := ?va0) rfl (by kernel_rfl) (by kernel_rfl) (by kernel_rfl) (by kernel_rfl) (fun _ _ _ h => h) hS0 (Or.inl ⟨by kernel_rfl, ?a0⟩) ?_
        case a0 => (intro W2 hS1; obtain ⟨s0, s1, s2, s3, s4, s5, s6, s7⟩ := hS1; go_simp; with_reducible rfl)
        refine wpX_take 1 (v := ?va1) rfl (by kernel_rfl) (by kernel_rfl) (by kernel_rfl) (by kernel_rfl) (fun _ _ _ h => h) hS0 (Or.inl ⟨by kernel_rfl, ?a1⟩) ?_
        case a1 => (intro W2 hS1; obtain ⟨s0, s1, s2, s3, s4, s5, s6, s7⟩ := hS1; go_simp; with_reducible rfl)
        refine wpX_take 2 (v := ?va2) rfl (by kernel_rfl) (by kernel_rfl) (by kernel_rfl) (by kernel_rfl) (fun _ _ _ h => h) hS0 (Or.inl ⟨by kernel_rfl, ?a2⟩) ?_
        case a2 => (intro W2 hS1; obtain ⟨s0, s1, s2, s3, s4, s5, s6, s7⟩ := hS1; go_simp; with_reducible rfl)
        refine wpX_take 3 (v := ?va3) rfl (by kernel_rfl) (by kernel_rfl) (by kernel_rfl) (by kernel_rfl) (fun _ _ _ h => h) hS0 (Or.inl ⟨by kernel_rfl, ?a3⟩) ?_
        case a3 => (intro W2 hS1; obtain ⟨s0, s1, s2, s3, s4, s5, s6, s7⟩ := hS1; go_simp; with_reducible rfl)
        refine wpX_take 4 (v := ?va4) rfl (by kernel_rfl) (by kernel_rfl) (by kernel_rfl) (by kernel_rfl) (fun _ _ _ h => h) hS0 (Or.inl ⟨by kernel_rfl, ?a4⟩) ?_
        case a4 => (intro W2 hS1; obtain ⟨s0, s1, s2, s3, s4, s5, s6, s7⟩ := hS1; go_simp; with_reducible rfl)
        refine wpX_take 5 (v := ?va5) rfl (by kernel_rfl) (by kernel_rfl) (by kernel_rfl) (by kernel_rfl) (fun _ _ _ h => h) hS0 (Or.inl ⟨by kernel_rfl, ?a5⟩) ?_
        case a5 => (intro W2 hS1; obtain ⟨s0, s1, s2, s3, s4, s5, s6, s7⟩ := hS1; go_simp; with_reducible rfl)
        refine wpX_take 6 (v := ?va6) rfl (by kernel_rfl) (by kernel_rfl) (by kernel_rfl) (by kernel_rfl) (fun _ _ _ h => h) hS0 (Or.inl ⟨by kernel_rfl, ?a6⟩) ?_
        case a6 => (intro W2 hS1; obtain ⟨s0, s1, s2, s3, s4, s5, s6, s7⟩ := hS1; go_simp; with_reducible rfl)
        refine wpX_take 7 (v := ?va7) rfl (by kernel_rfl) (by kernel_rfl) (by kernel_rfl) (by kernel_rfl) (fun _ _ _ h => h) hS0 (Or.inl ⟨by kernel_rfl, ?a7⟩) ?_
        case a7 => (intro W2 hS1; obtain ⟨s0, s1, s2, s3, s4, s5, s6, s7⟩ := hS1; go_simp; with_reducible rfl)
        obtain ⟨T, hTT⟩ : ∃ T : Bool, T = decide (¬ (xc = yc ∧ xa = ya ∧ xb = yb ∧ xn = yn)) := ⟨_, rfl⟩
        have HTT := Lib.hid hTT
        clear hTT
        refine wpX_take 8 (v := .bool T) rfl (by kernel_rfl) (by kernel_rfl) (by kernel_rfl) (by kernel_rfl) (fun _ _ _ h => h) hS0 (Or.inl ⟨by kernel_rfl, ?a8⟩) ?_
        case a8 =>
          intro W2 hS1
          have hTT := HTT.out
          go_simp
          by_cases e1 : xc = yc <;> by_cases e2 : xa = ya <;> by_cases e3 : xb = yb <;> by_cases e4 : xn = yn <;> simp [e1, e2, e3, e4, hTT]
        refine wpX_done (by kernel_rfl) ?_ _
        go_simp
        have HB2 := Lib.hid HB.out.drew
        clear hS0 y0 y1 y2 y3 z0 z1 z2 z3 HB
        by_cases hxy : xc = yc ∧ xa = ya ∧ xb = yb ∧ xn = yn
        · have hT0 : T = false := by rw [HTT.out]; exact decide_eq_false (fun h => h hxy)
          obtain ⟨rfl, rfl, rfl, rfl⟩ := hxy
          subst hT0
          clear HTT
          go_wp2
          case roundEnd =>
            refine ⟨⟨k + 1, by omega, by go_num, Lib.hid (fun j hj => ?_), HB2⟩, by simp [intOf]; omega⟩
            rcases Nat.lt_or_ge j k with h | h
            · exact HJ.out j h
            · obtain rfl : j = k := by omega
              rw [HX.out, HY.out]
        · have hT0 : T = true := by rw [HTT.out]; exact decide_eq_true hxy
          have HXY := Lib.hid hxy
          subst hT0
          clear hxy HTT
          go_wp2
          go_ret
          refine ⟨?_, HB2.out⟩
          rw [decide_eq_false]
          · rfl
          · intro e
            rw [e, HY.out] at HX
            have := HX.out
            simp only [InsP.mk.injEq] at this
            exact HXY.out ⟨this.1.symm, this.2.1.symm, this.2.2.1.symm, this.2.2.2.symm⟩
      · obtain rfl : k = n := by omega
        go_wp2
        go_ret
        refine ⟨?_, HB.out⟩
        rw [decide_eq_true (getD_ext (d := default) (HN.out.trans HN'.out.symm) (fun j hj => HJ.out j (by rw [← HN.out]; exact hj)))]
        rfl
  · have hne : ((n : Int) != (n' : Int)) = true := by rw [bne_iff_ne]; omega
    have HH : Hid (l ≠ l') := Lib.hid (fun e => hnn (by rw [← hn, ← hn', e]))
    clear hI hI' hn hn' hnn
    go_enter Tryd.func46, Tryd.ntmps46
    go_wp2
    go_ret
    exact ⟨by rw [decide_eq_false HH.out]; rfl, Below.refl _ _⟩
set_option maxRecDepth 100000 in
set_option maxHeartbeats 8000000 in
theorem same1_core {w : World} {n1 n2 : ByteArray} {lo1 lo2 : Int} {ia1 ia2 la1 la2 : Option Addr} {ic1 ic2 lc1 lc2 m1 m2 k1 k2 : Nat} {ins1 ins2 : List InsP} {ls1 ls2 : List Int}
    (hm1 : ins1.length = m1) (hm2 : ins2.length = m2) (hk1 : ls1.length = k1) (hk2 : ls2.length = k2) (b1 : m1 ≤ 281474976710656) (b3 : k1 ≤ 281474976710656)
    (h1 : Inss w ia1 ins1) (h2 : Inss w ia2 ins2) (h3 : Ints w la1 ls1) (h4 : Ints w la2 ls2) :
    Calls Tryd.prog 45 #[.agg #[.string n1, .int .i64 lo1, .slice ia1 m1 ic1, .slice la1 k1 lc1], .agg #[.string n2, .int .i64 lo2, .slice ia2 m2 ic2, .slice la2 k2 lc2]] w fun e w' => e = .returned (.bool (decide (n1 = n2 ∧ lo1 = lo2 ∧ ins1 = ins2 ∧ ls1 = ls2))) ∧ Below w.heap.size w w' := by
  have hB0 : Below w.heap.size w ((w.alloc (.cells #[.string n1, .int .i64 lo1, .slice ia1 m1 ic1, .slice la1 k1 lc1] 51)).alloc (.cells #[.string n2, .int .i64 lo2, .slice ia2 m2 ic2, .slice la2 k2 lc2] 51)) := ((Below.refl _ w).alloc (Nat.le_refl _) _).alloc (by simp) _
  have hx : ((w.alloc (.cells #[.string n1, .int .i64 lo1, .slice ia1 m1 ic1, .slice la1 k1 lc1] 51)).alloc (.cells #[.string n2, .int .i64 lo2, .slice ia2 m2 ic2, .slice la2 k2 lc2] 51)).heap[w.heap.size]? = some (.cells #[.string n1, .int .i64 lo1, .slice ia1 m1 ic1, .slice la1 k1 lc1] 51 (0, 0)) := (Below.heap_alloc _ _ w.heap.size (by simp)).trans (World.alloc_heap_new w _)
  have hy : ((w.alloc (.cells #[.string n1, .int .i64 lo1, .slice ia1 m1 ic1, .slice la1 k1 lc1] 51)).alloc (.cells #[.string n2, .int .i64 lo2, .slice ia2 m2 ic2, .slice la2 k2 lc2] 51)).heap[w.heap.size + 1]? = some (.cells #[.string n2, .int .i64 lo2, .slice ia2 m2 ic2, .slice la2 k2 lc2] 51 (0, 0)) := by
    have := World.alloc_heap_new (w.alloc (.cells #[.string n1, .int .i64 lo1, .slice ia1 m1 ic1, .slice la1 k1 lc1] 51)) (.cells #[.string n2, .int .i64 lo2, .slice ia2 m2 ic2, .slice la2 k2 lc2] 51)
    rwa [World.size_alloc] at this
  have hne := name_eq n1 n2
  have hci := eqins_any (w := ((w.alloc (.cells #[.string n1, .int .i64 lo1, .slice ia1 m1 ic1, .slice la1 k1 lc1] 51)).alloc (.cells #[.string n2, .int .i64 lo2, .slice ia2 m2 ic2, .slice la2 k2 lc2] 51))) (c := ic1) (c' := ic2) hm1 hm2 b1 (h1.below hB0 (Nat.le_refl _)) (h2.below hB0 (Nat.le_refl _))
  have hcl := fun W (h : Below w.heap.size w W) => eqints_any (w := W) (c := lc1) (c' := lc2) hk1 hk2 b3 (h3.below h (Nat.le_refl _)) (h4.below h (Nat.le_refl _))
  have HB0 := Lib.hid hB0
  have HX := Lib.hid hx
  have HY := Lib.hid hy
  have HCL := Lib.hid hcl
  clear hcl hB0 hx hy h1 h2 h3 h4 hm1 hm2 hk1 hk2
  by_cases hn : n1 = n2
  · have hnb : (n1.toList == n2.toList) = true := by rw [hne]; exact decide_eq_true hn
    by_cases hlo : lo1 = lo2
    · have hlb : (lo1 == lo2) = true := by rw [beq_iff_eq]; exact hlo
      have HE := Lib.hid (And.intro hn hlo)
      obtain ⟨s1, hs1⟩ : ∃ s, decide (ins1 = ins2) = s := ⟨_, rfl⟩
      rw [hs1] at hci
      have HS1 := Lib.hid hs1
      clear hn hlo hne hs1
      go_enter Tryd.func45, Tryd.ntmps45
      go_wp2_with fail
      refine hci.mono ?_
      rintro e w1 ⟨rfl, hb1⟩
      have hbA : Below w.heap.size w w1 := HB0.out.trans (hb1.mono HB0.out.size)
      have x3 := cell_blk (w := w1) (k := 3) ((hb1.block w.heap.size (Array.getElem?_eq_some_iff.1 HX.out).1).trans HX.out) rfl
      have y3 := cell_blk (w := w1) (k := 3) ((hb1.block (w.heap.size + 1) (Array.getElem?_eq_some_iff.1 HY.out).1).trans HY.out) rfl
      have hcl := HCL.out w1 hbA
      have HBA := Lib.hid hbA
      clear hci hb1 hbA HX HY HB0 HCL
      cases s1 with
      | false =>
        clear hcl
        go_wp2
        go_ret
        refine ⟨?_, HBA.out⟩
        rw [decide_eq_false (fun h => of_decide_eq_false HS1.out h.2.2.1)]
        rfl
      | true =>
        obtain ⟨s2, hs2⟩ : ∃ s, decide (ls1 = ls2) = s := ⟨_, rfl⟩
        rw [hs2] at hcl
        have HS2 := Lib.hid hs2
        clear hs2
        go_wp2_with fail
        refine hcl.mono ?_
        rintro e w2 ⟨rfl, hb2⟩
        have HBB := Lib.hid (HBA.out.trans (hb2.mono HBA.out.size))
        clear hcl hb2 x3 y3
        go_wp2
        go_ret
        refine ⟨?_, HBB.out⟩
        have e1 : decide (n1 = n2 ∧ lo1 = lo2 ∧ ins1 = ins2 ∧ ls1 = ls2) = decide (ls1 = ls2) := decide_eq_decide.2 ⟨fun h => h.2.2.2, fun h => ⟨HE.out.1, HE.out.2, of_decide_eq_true HS1.out, h⟩⟩
        rw [e1, HS2.out]
        rfl
    · have hlb : (lo1 == lo2) = false := by rw [beq_eq_false_iff_ne]; exact hlo
      have HLS := Lib.hid hlo
      clear hn hlo hne hci HX HY HCL
      go_enter Tryd.func45, Tryd.ntmps45
      go_wp2
      go_ret
      refine ⟨?_, HB0.out⟩
      rw [decide_eq_false (fun h => HLS.out h.2.1)]
      rfl
  · have hnb : (n1.toList == n2.toList) = false := by rw [hne]; exact decide_eq_false hn
    have HLS := Lib.hid hn
    clear hn hne hci HX HY HCL
    go_enter Tryd.func45, Tryd.ntmps45
    go_wp2
    go_ret
    refine ⟨?_, HB0.out⟩
    rw [decide_eq_false (fun h => HLS.out h.1)]
    rfl
set_option maxRecDepth 100000 in
set_option maxHeartbeats 8000000 in
theorem eqcodes_any {w : World} {a b : Option Addr} {T1 T2 : List CodeM} {n n' c c' : Nat} (hn : T1.length = n) (hn' : T2.length = n') (hm : n ≤ 281474976710656) (hI : Cds w a T1) (hI' : Cds w b T2) :
    Calls Tryd.prog 44 #[.slice a n c, .slice b n' c', .func (.func 45) #[] #[]] w fun e w' => e = .returned (.bool (decide (T1.length = T2.length ∧ ∀ j, j < T2.length → sameC (T1.getD j default) (T2.getD j default)))) ∧ Below w.heap.size w w' := by
  obtain ⟨R, hR⟩ : ∃ R, decide (T1.length = T2.length ∧ ∀ j, j < T2.length → sameC (T1.getD j default) (T2.getD j default)) = R := ⟨_, rfl⟩
  rw [hR]
  have HR := Lib.hid hR
  clear hR
  by_cases hnn : n = n'
  · subst hnn
    have hne : ((n : Int) != (n : Int)) = false := by simp
    have HN := Lib.hid (And.intro hn hn')
    have HI := Lib.hid hI
    have HI' := Lib.hid hI'
    clear hn hn' hI hI'
    go_enter Tryd.func44, Tryd.ntmps44
    go_wp2_with fail
    go_loopw [17] (fun x wr => ∃ k : Nat, k ≤ n ∧ x = .int .i64 k ∧ Hid (∀ j, j < k → sameC (T1.getD j default) (T2.getD j default)) ∧ Hid (Below w.heap.size w wr)) (fun x _ => n - (intOf x).toNat)
    case atStart => exact ⟨0, Nat.zero_le _, rfl, Lib.hid (fun j hj => by omega), Lib.hid (Below.refl _ _)⟩
    case round =>
      obtain ⟨k, hk, rfl, HJ, HB⟩ := hrel
      by_cases hkn : k < n
      · have hki : (k : Int) < (n : Int) := by omega
        obtain ⟨p1, o1, rfl, y0, y1, y2, y3, ok1⟩ := (HI.out.below HB.out (Nat.le_refl _)) k (by rw [HN.out.1]; exact hkn)
        obtain ⟨p2, o2, rfl, z0, z1, z2, z3, ok2⟩ := (HI'.out.below HB.out (Nat.le_refl _)) k (by rw [HN.out.2]; exact hkn)
        obtain ⟨c, hc⟩ : ∃ c, T1.getD k default = c := ⟨_, rfl⟩
        obtain ⟨d, hd⟩ : ∃ d, T2.getD k default = d := ⟨_, rfl⟩
        rw [hc] at y0 y1 y2 y3 ok1
        rw [hd] at z0 z1 z2 z3 ok2
        have HC := Lib.hid hc
        have HD := Lib.hid hd
        clear hc hd
        obtain ⟨s1, hs1⟩ : ∃ s, decide (sameC c d) = s := ⟨_, rfl⟩
        have HS1 := Lib.hid hs1
        clear hs1
        obtain ⟨cn, cl, cia, cic, ci, cla, clc, cls⟩ := c
        obtain ⟨dn, dl, dia, dic, di, dla, dlc, dls⟩ := d
        have hBA : Below wr.heap.size wr ((wr.alloc (.cells #[.string cn, .int .i64 cl, .slice cia ci.length cic, .slice cla cls.length clc] 51)).alloc (.cells #[.string dn, .int .i64 dl, .slice dia di.length dic, .slice dla dls.length dlc] 51)) := ((Below.refl _ wr).alloc (Nat.le_refl _) _).alloc (by simp) _
        have hcs := same1_core (w := ((wr.alloc (.cells #[.string cn, .int .i64 cl, .slice cia ci.length cic, .slice cla cls.length clc] 51)).alloc (.cells #[.string dn, .int .i64 dl, .slice dia di.length dic, .slice dla dls.length dlc] 51))) (n1 := cn) (n2 := dn) (lo1 := cl) (lo2 := dl) (ic1 := cic) (ic2 := dic) (lc1 := clc) (lc2 := dlc) rfl rfl rfl rfl ok1.ib ok1.lb (ok1.ii.below hBA (Nat.le_refl _)) (ok2.ii.below hBA (Nat.le_refl _)) (ok1.ll.below hBA (Nat.le_refl _)) (ok2.ll.below hBA (Nat.le_refl _))
        have hs2 : decide (cn = dn ∧ cl = dl ∧ ci = di ∧ cls = dls) = s1 := HS1.out
        dsimp only at y0 y1 y2 y3 z0 z1 z2 z3 hcs
        rw [hs2] at hcs
        have HBA := Lib.hid (HB.out.trans (hBA.mono HB.out.size))
        have hA1 : Below wr.heap.size wr (wr.alloc (.cells #[.string cn, .int .i64 cl, .slice cia ci.length cic, .slice cla cls.length clc] 51)) := (Below.refl _ wr).alloc (Nat.le_refl _) _
        have v0 := (hA1.cell (p := ⟨p2, o2 + k * 4, none⟩) (World.block_lt_of_cell? wr _ z0)).trans z0
        have v1 := (hA1.cell (p := ⟨p2, o2 + k * 4 + 1, none⟩) (World.block_lt_of_cell? wr _ z1)).trans z1
        have v2 := (hA1.cell (p := ⟨p2, o2 + k * 4 + 2, none⟩) (World.block_lt_of_cell? wr _ z2)).trans z2
        have v3 := (hA1.cell (p := ⟨p2, o2 + k * 4 + 3, none⟩) (World.block_lt_of_cell? wr _ z3)).trans z3
        clear ok1 ok2 hs2 hBA HB hA1
        go_wp2_with fail
        refine hcs.mono ?_
        rintro e w7 ⟨rfl, hb7⟩
        have HB7 := Lib.hid (HBA.out.trans (hb7.mono HBA.out.size))
        clear hcs hb7 HBA y0 y1 y2 y3 z0 z1 z2 z3 v0 v1 v2 v3
        cases s1 with
        | true =>
          go_wp2
          case roundEnd =>
            refine ⟨⟨k + 1, by omega, by go_num, Lib.hid (fun j hj => ?_), HB7⟩, by simp [intOf]; omega⟩
            rcases Nat.lt_or_ge j k with h | h
            · exact HJ.out j h
            · obtain rfl : j = k := by omega
              rw [HC.out, HD.out]
              exact of_decide_eq_true HS1.out
        | false =>
          go_wp2
          go_ret
          refine ⟨?_, HB7.out⟩
          rw [← HR.out, decide_eq_false]
          · rfl
          · intro e
            have h := e.2 k (by rw [HN.out.2]; exact hkn)
            rw [HC.out, HD.out] at h
            exact of_decide_eq_false HS1.out h
      · obtain rfl : k = n := by omega
        go_wp2
        go_ret
        refine ⟨?_, HB.out⟩
        rw [← HR.out, decide_eq_true ⟨HN.out.1.trans HN.out.2.symm, fun j hj => HJ.out j (by rw [← HN.out.2]; exact hj)⟩]
        rfl
  · have hne : ((n : Int) != (n' : Int)) = true := by rw [bne_iff_ne]; omega
    have HH : Hid (T1.length ≠ T2.length) := Lib.hid (fun e => hnn (by rw [← hn, ← hn', e]))
    clear hI hI' hn hn' hnn
    go_enter Tryd.func44, Tryd.ntmps44
    go_wp2
    go_ret
    refine ⟨?_, Below.refl _ _⟩
    rw [← HR.out, decide_eq_false (fun h => HH.out h.1)]
    rfl
set_option maxRecDepth 100000 in
set_option maxHeartbeats 16000000 in
theorem same_core {w : World} {va1 aa1 ca1 ta1 va2 aa2 ca2 ta2 : Option Addr} {vc1 ac1 cc1 tc1 vc2 ac2 cc2 tc2 nv1 na1 nc1 nt1 nv2 na2 nc2 nt2 : Nat} {V1 V2 A1 A2 C1 C2 : List Int} {mu1 co1 mu2 co2 : Int} {T1 T2 : List CodeM}
    (hnv1 : V1.length = nv1) (hnv2 : V2.length = nv2) (hna1 : A1.length = na1) (hnc1 : C1.length = nc1) (hna2 : A2.length = na2) (hnc2 : C2.length = nc2) (hnt1 : T1.length = nt1) (hnt2 : T2.length = nt2) (b0 : nv1 ≤ 281474976710656) (b1 : na1 ≤ 281474976710656) (b3 : nc1 ≤ 281474976710656) (b4 : nt1 ≤ 281474976710656)
    (hv1 : Ints w va1 V1) (hv2 : Ints w va2 V2) (ha1 : Ints w aa1 A1) (ha2 : Ints w aa2 A2) (hc1 : Ints w ca1 C1) (hc2 : Ints w ca2 C2) (ht1 : Cds w ta1 T1) (ht2 : Cds w ta2 T2) :
    Calls Tryd.prog 16 #[.agg #[.slice va1 nv1 vc1, .slice aa1 na1 ac1, .slice ca1 nc1 cc1, .int .i64 mu1, .int .i64 co1, .slice ta1 nt1 tc1], .agg #[.slice va2 nv2 vc2, .slice aa2 na2 ac2, .slice ca2 nc2 cc2, .int .i64 mu2, .int .i64 co2, .slice ta2 nt2 tc2]] w fun e w' => e = .returned (.bool (decide (sameM ⟨va1, vc1, V1, aa1, ac1, A1, ca1, cc1, C1, mu1, co1, ta1, tc1, T1⟩ ⟨va2, vc2, V2, aa2, ac2, A2, ca2, cc2, C2, mu2, co2, ta2, tc2, T2⟩))) ∧ Below w.heap.size w w' := by
  have hmf : ∀ (fn : Fn) (first cap : Array Value) (w : World), (Instr.makeFunc fn first cap).run Tryd.prog w = .ok (.func fn first cap) w := fun _ _ _ _ => rfl
  obtain ⟨R, hR⟩ : ∃ R, decide (sameM ⟨va1, vc1, V1, aa1, ac1, A1, ca1, cc1, C1, mu1, co1, ta1, tc1, T1⟩ ⟨va2, vc2, V2, aa2, ac2, A2, ca2, cc2, C2, mu2, co2, ta2, tc2, T2⟩) = R := ⟨_, rfl⟩
  rw [hR]
  have HR := Lib.hid (hR.symm.trans (show decide (sameM ⟨va1, vc1, V1, aa1, ac1, A1, ca1, cc1, C1, mu1, co1, ta1, tc1, T1⟩ ⟨va2, vc2, V2, aa2, ac2, A2, ca2, cc2, C2, mu2, co2, ta2, tc2, T2⟩) = decide (V1 = V2 ∧ A1 = A2 ∧ C1 = C2 ∧ mu1 = mu2 ∧ co1 = co2 ∧ T1.length = T2.length ∧ ∀ j, j < T2.length → sameC (T1.getD j default) (T2.getD j default)) from rfl))
  clear hR
  have hB0 : Below w.heap.size w ((w.alloc (.cells #[.slice va1 nv1 vc1, .slice aa1 na1 ac1, .slice ca1 nc1 cc1, .int .i64 mu1, .int .i64 co1, .slice ta1 nt1 tc1] 27)).alloc (.cells #[.slice va2 nv2 vc2, .slice aa2 na2 ac2, .slice ca2 nc2 cc2, .int .i64 mu2, .int .i64 co2, .slice ta2 nt2 tc2] 27)) := ((Below.refl _ w).alloc (Nat.le_refl _) _).alloc (by simp) _
  have hx : ((w.alloc (.cells #[.slice va1 nv1 vc1, .slice aa1 na1 ac1, .slice ca1 nc1 cc1, .int .i64 mu1, .int .i64 co1, .slice ta1 nt1 tc1] 27)).alloc (.cells #[.slice va2 nv2 vc2, .slice aa2 na2 ac2, .slice ca2 nc2 cc2, .int .i64 mu2, .int .i64 co2, .slice ta2 nt2 tc2] 27)).heap[w.heap.size]? = some (.cells #[.slice va1 nv1 vc1, .slice aa1 na1 ac1, .slice ca1 nc1 cc1, .int .i64 mu1, .int .i64 co1, .slice ta1 nt1 tc1] 27 (0, 0)) := (Below.heap_alloc _ _ w.heap.size (by simp)).trans (World.alloc_heap_new w _)
  have hy : ((w.alloc (.cells #[.slice va1 nv1 vc1, .slice aa1 na1 ac1, .slice ca1 nc1 cc1, .int .i64 mu1, .int .i64 co1, .slice ta1 nt1 tc1] 27)).alloc (.cells #[.slice va2 nv2 vc2, .slice aa2 na2 ac2, .slice ca2 nc2 cc2, .int .i64 mu2, .int .i64 co2, .slice ta2 nt2 tc2] 27)).heap[w.heap.size + 1]? = some (.cells #[.slice va2 nv2 vc2, .slice aa2 na2 ac2, .slice ca2 nc2 cc2, .int .i64 mu2, .int .i64 co2, .slice ta2 nt2 tc2] 27 (0, 0)) := by
    have := World.alloc_heap_new (w.alloc (.cells #[.slice va1 nv1 vc1, .slice aa1 na1 ac1, .slice ca1 nc1 cc1, .int .i64 mu1, .int .i64 co1, .slice ta1 nt1 tc1] 27)) (.cells #[.slice va2 nv2 vc2, .slice aa2 na2 ac2, .slice ca2 nc2 cc2, .int .i64 mu2, .int .i64 co2, .slice ta2 nt2 tc2] 27)
    rwa [World.size_alloc] at this
  have hcv := eqlongs_any (w := ((w.alloc (.cells #[.slice va1 nv1 vc1, .slice aa1 na1 ac1, .slice ca1 nc1 cc1, .int .i64 mu1, .int .i64 co1, .slice ta1 nt1 tc1] 27)).alloc (.cells #[.slice va2 nv2 vc2, .slice aa2 na2 ac2, .slice ca2 nc2 cc2, .int .i64 mu2, .int .i64 co2, .slice ta2 nt2 tc2] 27))) (c := vc1) (c' := vc2) hnv1 hnv2 b0 (hv1.below hB0 (Nat.le_refl _)) (hv2.below hB0 (Nat.le_refl _))
  have HCA := Lib.hid (fun W (h : Below w.heap.size w W) => eqints_any (w := W) (c := ac1) (c' := ac2) hna1 hna2 b1 (ha1.below h (Nat.le_refl _)) (ha2.below h (Nat.le_refl _)))
  have HCC := Lib.hid (fun W (h : Below w.heap.size w W) => eqints_any (w := W) (c := cc1) (c' := cc2) hnc1 hnc2 b3 (hc1.below h (Nat.le_refl _)) (hc2.below h (Nat.le_refl _)))
  have HCT := Lib.hid (fun W (h : Below w.heap.size w W) => eqcodes_any (w := W) (c := tc1) (c' := tc2) hnt1 hnt2 b4 (ht1.below h (Nat.le_refl _)) (ht2.below h (Nat.le_refl _)))
  have HB0 := Lib.hid hB0
  have HX := Lib.hid hx
  have HY := Lib.hid hy
  clear hB0 hx hy hv1 hv2 ha1 ha2 hc1 hc2 ht1 ht2 hnv1 hnv2 hna1 hna2 hnc1 hnc2 hnt1 hnt2
  by_cases e4 : mu1 = mu2
  · have q4 : (mu1 == mu2) = true := by rw [beq_iff_eq]; exact e4
    by_cases e5 : co1 = co2
    · have q5 : (co1 == co2) = true := by rw [beq_iff_eq]; exact e5
      have HE := Lib.hid (And.intro e4 e5)
      clear e4 e5
      obtain ⟨s0, hs0⟩ : ∃ s, decide (V1 = V2) = s := ⟨_, rfl⟩
      rw [hs0] at hcv
      have HS0 := Lib.hid hs0
      clear hs0
      go_enter Tryd.func16, Tryd.ntmps16
      go_wp2_with fail
      refine hcv.mono ?_
      rintro e w1 ⟨rfl, hb1⟩
      have HB1 := Lib.hid (HB0.out.trans (hb1.mono HB0.out.size))
      have HX1 := Lib.hid ((hb1.block w.heap.size (Array.getElem?_eq_some_iff.1 HX.out).1).trans HX.out)
      have HY1 := Lib.hid ((hb1.block (w.heap.size + 1) (Array.getElem?_eq_some_iff.1 HY.out).1).trans HY.out)
      clear hcv hb1 HB0 HX HY
      cases s0 with
      | false =>
        go_wp2
        go_ret
        refine ⟨?_, HB1.out⟩
        rw [HR.out, decide_eq_false (fun h => of_decide_eq_false HS0.out h.1)]
        rfl
      | true =>
        have x1 := cell_blk (k := 1) HX1.out rfl
        have y1 := cell_blk (k := 1) HY1.out rfl
        have hc1 := HCA.out _ HB1.out
        obtain ⟨s1, hs1⟩ : ∃ s, decide (A1 = A2) = s := ⟨_, rfl⟩
        rw [hs1] at hc1
        have HS1 := Lib.hid hs1
        clear hs1
        go_wp2_with fail
        refine hc1.mono ?_
        rintro e w2 ⟨rfl, hb2⟩
        have HB2 := Lib.hid (HB1.out.trans (hb2.mono HB1.out.size))
        have HX2 := Lib.hid ((hb2.block w.heap.size (Array.getElem?_eq_some_iff.1 HX1.out).1).trans HX1.out)
        have HY2 := Lib.hid ((hb2.block (w.heap.size + 1) (Array.getElem?_eq_some_iff.1 HY1.out).1).trans HY1.out)
        clear hc1 hb2 HB1 HX1 HY1 x1 y1
        cases s1 with
        | false =>
          go_wp2
          go_ret
          refine ⟨?_, HB2.out⟩
          rw [HR.out, decide_eq_false (fun h => of_decide_eq_false HS1.out h.2.1)]
          rfl
        | true =>
          have x2 := cell_blk (k := 2) HX2.out rfl
          have y2 := cell_blk (k := 2) HY2.out rfl
          have hc2 := HCC.out _ HB2.out
          obtain ⟨s2, hs2⟩ : ∃ s, decide (C1 = C2) = s := ⟨_, rfl⟩
          rw [hs2] at hc2
          have HS2 := Lib.hid hs2
          clear hs2
          go_wp2_with fail
          refine hc2.mono ?_
          rintro e w3 ⟨rfl, hb3⟩
          have HB3 := Lib.hid (HB2.out.trans (hb3.mono HB2.out.size))
          have HX3 := Lib.hid ((hb3.block w.heap.size (Array.getElem?_eq_some_iff.1 HX2.out).1).trans HX2.out)
          have HY3 := Lib.hid ((hb3.block (w.heap.size + 1) (Array.getElem?_eq_some_iff.1 HY2.out).1).trans HY2.out)
          clear hc2 hb3 HB2 HX2 HY2 x2 y2
          cases s2 with
          | false =>
            go_wp2
            go_ret
            refine ⟨?_, HB3.out⟩
            rw [HR.out, decide_eq_false (fun h => of_decide_eq_false HS2.out h.2.2.1)]
            rfl
          | true =>
            have x3 := cell_blk (k := 5) HX3.out rfl
            have y3 := cell_blk (k := 5) HY3.out rfl
            have hc3 := HCT.out _ HB3.out
            obtain ⟨s3, hs3⟩ : ∃ s, decide (T1.length = T2.length ∧ ∀ j, j < T2.length → sameC (T1.getD j default) (T2.getD j default)) = s := ⟨_, rfl⟩
            rw [hs3] at hc3
            have HS3 := Lib.hid hs3
            clear hs3
            go_wp2_with fail
            refine hc3.mono ?_
            rintro e w4 ⟨rfl, hb4⟩
            have HB4 := Lib.hid (HB3.out.trans (hb4.mono HB3.out.size))
            have HX4 := Lib.hid ((hb4.block w.heap.size (Array.getElem?_eq_some_iff.1 HX3.out).1).trans HX3.out)
            have HY4 := Lib.hid ((hb4.block (w.heap.size + 1) (Array.getElem?_eq_some_iff.1 HY3.out).1).trans HY3.out)
            clear hc3 hb4 HB3 HX3 HY3 x3 y3
            cases s3 with
            | false =>
              go_wp2
              go_ret
              refine ⟨?_, HB4.out⟩
              rw [HR.out, decide_eq_false (fun h => of_decide_eq_false HS3.out h.2.2.2.2.2)]
              rfl
            | true =>
              go_wp2
              go_ret
              refine ⟨?_, HB4.out⟩
              rw [HR.out, decide_eq_true ⟨of_decide_eq_true HS0.out, of_decide_eq_true HS1.out, of_decide_eq_true HS2.out, HE.out.1, HE.out.2, of_decide_eq_true HS3.out⟩]
              rfl
    · have q5 : (co1 == co2) = false := by rw [beq_eq_false_iff_ne]; exact e5
      have HE := Lib.hid e5
      clear e4 e5 hcv HCA HCC HCT
      go_enter Tryd.func16, Tryd.ntmps16
      go_wp2
      go_ret
      refine ⟨?_, HB0.out⟩
      rw [HR.out, decide_eq_false (fun h => HE.out h.2.2.2.2.1)]
      rfl
  · have q4 : (mu1 == mu2) = false := by rw [beq_eq_false_iff_ne]; exact e4
    have HE := Lib.hid e4
    clear e4 hcv HCA HCC HCT
    go_enter Tryd.func16, Tryd.ntmps16
    go_wp2
    go_ret
    refine ⟨?_, HB0.out⟩
    rw [HR.out, decide_eq_false (fun h => HE.out h.2.2.2.1)]
    rfl
theorem same_any {w : World} {a b : ModM} (ha : ModOk w a) (hb : ModOk w b) :
    Calls Tryd.prog 16 #[.agg a.cells, .agg b.cells] w fun e w' => e = .returned (.bool (decide (sameM a b))) ∧ Below w.heap.size w w' :=
  same_core rfl rfl rfl rfl rfl rfl rfl rfl ha.vb ha.ab ha.cb ha.tb ha.vv hb.vv ha.av hb.av ha.cv hb.cv ha.tv hb.tv
end Go.Proofs.YtjbinejaagpleaaDoor
