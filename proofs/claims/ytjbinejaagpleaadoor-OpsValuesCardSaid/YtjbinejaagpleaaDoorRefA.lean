/- The document's Same: of numbers' lists. Asked: the lists lie. -/
import Derived.Test.YtjbinejaagpleaaDoorOwn
namespace Go.Proofs.YtjbinejaagpleaaDoor
open Go.RowKit

theorem getD_ext {α : Type} {l l' : List α} {d : α} (hl : l.length = l'.length) (h : ∀ j, j < l.length → l.getD j d = l'.getD j d) : l = l' := by
  apply List.ext_getElem hl
  intro j h1 h2
  have := h j h1
  rw [List.getD_eq_getElem?_getD, List.getD_eq_getElem?_getD, List.getElem?_eq_getElem h1, List.getElem?_eq_getElem h2] at this
  simpa using this
set_option maxRecDepth 100000 in
set_option maxHeartbeats 4000000 in
theorem rints_any {w : World} {a b : Option Addr} {l l' : List Int} {n n' c c' : Nat} (hn : l.length = n) (hn' : l'.length = n') (hm : n ≤ 281474976710656) (hm' : n' ≤ 281474976710656) (hI : Ints w a l) (hI' : Ints w b l') :
    Calls Tryd.prog 33 #[.slice a n c, .slice b n' c'] w fun e w' => e = .returned (.bool (decide (l = l'))) ∧ Below w.heap.size w w' := by
  by_cases hnn : n = n'
  · subst hnn
    have hne : ((n : Int) != (n : Int)) = false := by simp
    have hmx : Tryd.prog.follows .mixedOrders = true := by kernel_rfl
    have HN := Lib.hid hn
    have HN' := Lib.hid hn'
    have HI := Lib.hid hI
    have HI' := Lib.hid hI'
    clear hn hn' hI hI'
    go_enter Tryd.func33, Tryd.ntmps33
    go_wp2_with fail
    go_loopw [5] (fun x wr => ∃ k : Nat, k ≤ n ∧ x = .int .i64 k ∧ Hid (∀ j, j < k → l.getD j 0 = l'.getD j 0) ∧ Hid (Below w.heap.size w wr)) (fun x _ => n - (intOf x).toNat)
    case atStart => exact ⟨0, Nat.zero_le _, rfl, Lib.hid (fun j hj => by omega), Lib.hid (Below.refl _ _)⟩
    case round =>
      obtain ⟨k, hk, rfl, HJ, HB⟩ := hrel
      by_cases hkn : k < n
      · have hki : (k : Int) < (n : Int) := by omega
        obtain ⟨b1, o1, rfl, y0⟩ := (HI.out.below HB.out (Nat.le_refl _)) k (by rw [HN.out]; exact hkn)
        obtain ⟨b2, o2, rfl, y1⟩ := (HI'.out.below HB.out (Nat.le_refl _)) k (by rw [HN'.out]; exact hkn)
        obtain ⟨x, hx⟩ : ∃ x, l.getD k 0 = x := ⟨_, rfl⟩
        obtain ⟨y, hy⟩ : ∃ y, l'.getD k 0 = y := ⟨_, rfl⟩
        rw [hx] at y0
        rw [hy] at y1
        have HX := Lib.hid hx
        have HY := Lib.hid hy
        clear hx hy
        go_wp2_with fail
        refine wp_region_x [] (fun W => W.cell? ⟨b1, o1 + k, none⟩ = some (.int .i64 x) ∧ W.cell? ⟨b2, o2 + k, none⟩ = some (.int .i64 y)) hmx ?_
        have hS0 : wr.drew.cell? ⟨b1, o1 + k, none⟩ = some (.int .i64 x) ∧ wr.drew.cell? ⟨b2, o2 + k, none⟩ = some (.int .i64 y) := ⟨y0, y1⟩
        refine wpX_take 0 (v := ?va0) rfl (by kernel_rfl) (by kernel_rfl) (by kernel_rfl) (by kernel_rfl) (fun _ _ _ h => h) hS0 (Or.inl ⟨by kernel_rfl, ?a0⟩) ?_
        case a0 => (intro W2 hS1; obtain ⟨s0, s1⟩ := hS1; go_simp; with_reducible rfl)
        refine wpX_take 1 (v := ?va1) rfl (by kernel_rfl) (by kernel_rfl) (by kernel_rfl) (by kernel_rfl) (fun _ _ _ h => h) hS0 (Or.inl ⟨by kernel_rfl, ?a1⟩) ?_
        case a1 => (intro W2 hS1; obtain ⟨s0, s1⟩ := hS1; go_simp; with_reducible rfl)
        refine wpX_take 2 (v := ?va2) rfl (by kernel_rfl) (by kernel_rfl) (by kernel_rfl) (by kernel_rfl) (fun _ _ _ h => h) hS0 (Or.inl ⟨by kernel_rfl, ?a2⟩) ?_
        case a2 => (intro W2 hS1; obtain ⟨s0, s1⟩ := hS1; go_simp; with_reducible rfl)
        refine wpX_take 3 (v := ?va3) rfl (by kernel_rfl) (by kernel_rfl) (by kernel_rfl) (by kernel_rfl) (fun _ _ _ h => h) hS0 (Or.inl ⟨by kernel_rfl, ?a3⟩) ?_
        case a3 => (intro W2 hS1; obtain ⟨s0, s1⟩ := hS1; go_simp; with_reducible rfl)
        refine wpX_take 4 (v := ?va4) rfl (by kernel_rfl) (by kernel_rfl) (by kernel_rfl) (by kernel_rfl) (fun _ _ _ h => h) hS0 (Or.inl ⟨by kernel_rfl, ?a4⟩) ?_
        case a4 => (intro W2 hS1; obtain ⟨s0, s1⟩ := hS1; go_simp; with_reducible rfl)
        refine wpX_take 5 (v := ?va5) rfl (by kernel_rfl) (by kernel_rfl) (by kernel_rfl) (by kernel_rfl) (fun _ _ _ h => h) hS0 (Or.inl ⟨by kernel_rfl, ?a5⟩) ?_
        case a5 => (intro W2 hS1; obtain ⟨s0, s1⟩ := hS1; go_simp; with_reducible rfl)
        refine wpX_take 6 (v := ?va6) rfl (by kernel_rfl) (by kernel_rfl) (by kernel_rfl) (by kernel_rfl) (fun _ _ _ h => h) hS0 (Or.inl ⟨by kernel_rfl, ?a6⟩) ?_
        case a6 => (intro W2 hS1; obtain ⟨s0, s1⟩ := hS1; go_simp; with_reducible rfl)
        refine wpX_take 7 (v := ?va7) rfl (by kernel_rfl) (by kernel_rfl) (by kernel_rfl) (by kernel_rfl) (fun _ _ _ h => h) hS0 (Or.inl ⟨by kernel_rfl, ?a7⟩) ?_
        case a7 => (intro W2 hS1; obtain ⟨s0, s1⟩ := hS1; go_simp; with_reducible rfl)
        refine wpX_take 8 (v := ?va8) rfl (by kernel_rfl) (by kernel_rfl) (by kernel_rfl) (by kernel_rfl) (fun _ _ _ h => h) hS0 (Or.inl ⟨by kernel_rfl, ?a8⟩) ?_
        case a8 => (intro W2 hS1; obtain ⟨s0, s1⟩ := hS1; go_simp; with_reducible rfl)
        refine wpX_done (by kernel_rfl) ?_ _
        go_simp
        have HB2 := Lib.hid HB.out.drew
        clear hS0 y0 y1 HB
        by_cases hxy : x = y
        · have hxy' : (x != y) = false := by rw [bne_eq_false_iff_eq]; exact hxy
          have HXY := Lib.hid hxy
          clear hxy
          go_wp2
          case roundEnd =>
            refine ⟨⟨k + 1, by omega, by go_num, Lib.hid (fun j hj => ?_), HB2⟩, by simp [intOf]; omega⟩
            rcases Nat.lt_or_ge j k with h | h
            · exact HJ.out j h
            · obtain rfl : j = k := by omega
              rw [HX.out, HY.out, HXY.out]
        · have hxy' : (x != y) = true := by rw [bne_iff_ne]; exact hxy
          have HXY := Lib.hid hxy
          clear hxy
          go_wp2
          go_ret
          refine ⟨?_, HB2.out⟩
          rw [decide_eq_false (fun e => HXY.out (by rw [← HX.out, ← HY.out, e]))]
          rfl
      · obtain rfl : k = n := by omega
        go_wp2
        go_ret
        refine ⟨?_, HB.out⟩
        rw [decide_eq_true (getD_ext (d := 0) (HN.out.trans HN'.out.symm) (fun j hj => HJ.out j (by rw [← HN.out]; exact hj)))]
        rfl
  · have hne : ((n : Int) != (n' : Int)) = true := by rw [bne_iff_ne]; omega
    have HH : Hid (l ≠ l') := Lib.hid (fun e => hnn (by rw [← hn, ← hn', e]))
    clear hI hI' hn hn' hnn
    go_enter Tryd.func33, Tryd.ntmps33
    go_wp2
    go_ret
    exact ⟨by rw [decide_eq_false HH.out]; rfl, Below.refl _ _⟩
end Go.Proofs.YtjbinejaagpleaaDoor
