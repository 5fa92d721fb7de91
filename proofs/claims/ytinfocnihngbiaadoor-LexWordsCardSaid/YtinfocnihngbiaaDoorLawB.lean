/- The statements on words and on two texts hold. Asked: strconv's ErrRange is laid. -/
import Derived.Test.YtinfocnihngbiaaDoorLawA
namespace Go.Proofs.YtinfocnihngbiaaDoor
open Go.RowKit

set_option maxRecDepth 100000 in
set_option maxHeartbeats 4000000 in
theorem words_law (s : ByteArray) (w : World) (hE : ErrR w) : Calls Tryd.prog 4 #[.string s] w (Tru w) := by
  by_cases h : 500 < s.size
  · have hi : (500 : Int) < (s.size : Int) := by omega
    go_enter Tryd.func4, Tryd.ntmps4
    go_wp2_with fail
    refine (works_any w hE).mono ?_
    rintro e w1 ⟨rfl, hb1⟩
    go_wp2
    go_ret
    exact ⟨rfl, hb1⟩
  · have hi : ¬ (500 : Int) < (s.size : Int) := by omega
    go_enter Tryd.func4, Tryd.ntmps4
    go_wp2_with fail
    generalize (⟨#[97, 10]⟩ ++ s ++ ⟨#[32, 98]⟩ : ByteArray) = X
    have c1 := lex_out X w hE
    have c2 := rlex_out X
    have hlen := lexR_len X
    obtain ⟨⟨l, ⟨x, y⟩, er⟩, hR⟩ : ∃ R, lexR X = R := ⟨_, rfl⟩
    rw [hR] at c1 hlen
    simp only [hR] at c2
    clear hR
    refine c1.mono ?_
    rintro e w1 ⟨a1, cap1, rfl, hO1, hb1⟩
    clear c1
    go_wp2_with fail
    have hA : Ps (w1.alloc (.cells #[.int .i64 x, .int .i64 y] 25)) w1.heap.size (x, y) := World.alloc_heap_new _ _
    have hBA : Below w1.heap.size w1 (w1.alloc (.cells #[.int .i64 x, .int .i64 y] 25)) := (Below.refl _ w1).alloc (Nat.le_refl _) _
    have hO2 := hO1.below hBA
    have hB2 := hb1.trans (hBA.mono hb1.size)
    clear hO1 hBA hb1
    change Calls _ _ _ (w1.alloc (.cells #[.int .i64 x, .int .i64 y] 25)) _
    obtain ⟨ba, hba⟩ : ∃ ba, w1.heap.size = ba := ⟨_, rfl⟩
    rw [hba] at hA ⊢
    generalize w1.alloc (.cells #[.int .i64 x, .int .i64 y] 25) = wA at *
    clear hba
    refine (c2 wA).mono ?_
    rintro e w3 ⟨a2, cap2, rfl, hO3, hb3⟩
    clear c2
    go_wp2_with fail
    have hC : Ps (w3.alloc (.cells #[.int .i64 x, .int .i64 y] 25)) w3.heap.size (x, y) := World.alloc_heap_new _ _
    have hBC : Below w3.heap.size w3 (w3.alloc (.cells #[.int .i64 x, .int .i64 y] 25)) := (Below.refl _ w3).alloc (Nat.le_refl _) _
    have hO4 := (hO2.below hb3).below hBC
    have hO5 := hO3.below hBC
    have hA4 := (hA.below hb3 hA.lt).alloc (.cells #[.int .i64 x, .int .i64 y] 25)
    have hB3 := hB2.trans (hb3.mono hB2.size)
    have hB4 := hB3.trans (hBC.mono hB3.size)
    clear hO3 hO2 hb3 hBC hB3 hB2 hA
    change Calls _ _ _ (w3.alloc (.cells #[.int .i64 x, .int .i64 y] 25)) _
    obtain ⟨bc, hbc⟩ : ∃ bc, w3.heap.size = bc := ⟨_, rfl⟩
    rw [hbc] at hC ⊢
    generalize w3.alloc (.cells #[.int .i64 x, .int .i64 y] 25) = W at *
    clear hbc
    refine (wsame_in (w := W) rfl rfl (Nat.le_trans hlen (by decide)) hO4.wds hO5.wds).mono ?_
    rw [wdsE_refl]
    rintro e w5 ⟨rfl, nd, rfl⟩
    have a0 : W.cell? ⟨ba, 0, none⟩ = some (.int .i64 x) := hA4.c0
    have e1 : W.cell? ⟨ba, 1, none⟩ = some (.int .i64 y) := hA4.c1
    have b0 : W.cell? ⟨bc, 0, none⟩ = some (.int .i64 x) := hC.c0
    have b1 : W.cell? ⟨bc, 1, none⟩ = some (.int .i64 y) := hC.c1
    have q1 := eqp_any x y x y
    simp only [beq_self_eq_true, Bool.and_self] at q1
    have hB5 : Below w.heap.size w (W.drewN nd) := ⟨hB4.os, hB4.tape, hB4.output, hB4.size, hB4.block⟩
    clear hO4 hO5 hA4 hC hB4
    go_wp2_with fail
    refine (num_any er _).mono ?_
    rintro e w' ⟨rfl, rfl⟩
    go_wp2_with fail
    refine (works_any _ (hE.below hB5 hE.1)).mono ?_
    rintro e w6 ⟨rfl, hb6⟩
    have hB6 := hB5.trans (hb6.mono hB5.size)
    go_wp2
    go_ret
    exact ⟨rfl, hB6⟩
set_option maxRecDepth 100000 in
set_option maxHeartbeats 4000000 in
theorem two_law (s t : ByteArray) (w : World) (hE : ErrR w) : Calls Tryd.prog 6 #[.string s, .string t] w (Tru w) := by
  by_cases h : 100 < s.size
  · have hi : (100 : Int) < (s.size : Int) := by omega
    go_enter Tryd.func6, Tryd.ntmps6
    go_wp2_with fail
    refine (works_any w hE).mono ?_
    rintro e w1 ⟨rfl, hb1⟩
    go_wp2
    go_ret
    exact ⟨rfl, hb1⟩
  · have hi : ¬ (100 : Int) < (s.size : Int) := by omega
    by_cases h2 : 100 < t.size
    · have hi2 : (100 : Int) < (t.size : Int) := by omega
      go_enter Tryd.func6, Tryd.ntmps6
      go_wp2_with fail
      refine (works_any w hE).mono ?_
      rintro e w1 ⟨rfl, hb1⟩
      go_wp2
      go_ret
      exact ⟨rfl, hb1⟩
    · have hi2 : ¬ (100 : Int) < (t.size : Int) := by omega
      go_enter Tryd.func6, Tryd.ntmps6
      go_wp2_with fail
      obtain ⟨X, hX⟩ : ∃ X, s ++ t = X := ⟨_, rfl⟩
      have HX := Lib.hid hX
      rw [hX]
      clear hX
      have c1 := lex_out X w hE
      have c2 := rlex_out X
      have hlen := lexR_len X
      obtain ⟨⟨l, ⟨x, y⟩, er⟩, hR⟩ : ∃ R, lexR X = R := ⟨_, rfl⟩
      rw [hR] at c1 hlen
      simp only [hR] at c2
      clear hR
      refine c1.mono ?_
      rintro e w1 ⟨a1, cap1, rfl, hO1, hb1⟩
      clear c1
      go_wp2_with fail
      have hA : Ps (w1.alloc (.cells #[.int .i64 x, .int .i64 y] 25)) w1.heap.size (x, y) := World.alloc_heap_new _ _
      have hBA : Below w1.heap.size w1 (w1.alloc (.cells #[.int .i64 x, .int .i64 y] 25)) := (Below.refl _ w1).alloc (Nat.le_refl _) _
      have hO2 := hO1.below hBA
      have hB2 := hb1.trans (hBA.mono hb1.size)
      clear hO1 hBA hb1
      change Calls _ _ _ (w1.alloc (.cells #[.int .i64 x, .int .i64 y] 25)) _
      obtain ⟨ba, hba⟩ : ∃ ba, w1.heap.size = ba := ⟨_, rfl⟩
      rw [hba] at hA ⊢
      generalize w1.alloc (.cells #[.int .i64 x, .int .i64 y] 25) = wA at *
      clear hba
      rw [HX.out]
      refine (c2 wA).mono ?_
      rintro e w3 ⟨a2, cap2, rfl, hO3, hb3⟩
      clear c2
      go_wp2_with fail
      have hC : Ps (w3.alloc (.cells #[.int .i64 x, .int .i64 y] 25)) w3.heap.size (x, y) := World.alloc_heap_new _ _
      have hBC : Below w3.heap.size w3 (w3.alloc (.cells #[.int .i64 x, .int .i64 y] 25)) := (Below.refl _ w3).alloc (Nat.le_refl _) _
      have hO4 := (hO2.below hb3).below hBC
      have hO5 := hO3.below hBC
      have hA4 := (hA.below hb3 hA.lt).alloc (.cells #[.int .i64 x, .int .i64 y] 25)
      have hB3 := hB2.trans (hb3.mono hB2.size)
      have hB4 := hB3.trans (hBC.mono hB3.size)
      clear hO3 hO2 hb3 hBC hB3 hB2 hA
      change Calls _ _ _ (w3.alloc (.cells #[.int .i64 x, .int .i64 y] 25)) _
      obtain ⟨bc, hbc⟩ : ∃ bc, w3.heap.size = bc := ⟨_, rfl⟩
      rw [hbc] at hC ⊢
      generalize w3.alloc (.cells #[.int .i64 x, .int .i64 y] 25) = W at *
      clear hbc
      refine (wsame_in (w := W) rfl rfl (Nat.le_trans hlen (by decide)) hO4.wds hO5.wds).mono ?_
      rw [wdsE_refl]
      rintro e w5 ⟨rfl, nd, rfl⟩
      have a0 : W.cell? ⟨ba, 0, none⟩ = some (.int .i64 x) := hA4.c0
      have e1 : W.cell? ⟨ba, 1, none⟩ = some (.int .i64 y) := hA4.c1
      have b0 : W.cell? ⟨bc, 0, none⟩ = some (.int .i64 x) := hC.c0
      have b1 : W.cell? ⟨bc, 1, none⟩ = some (.int .i64 y) := hC.c1
      have q1 := eqp_any x y x y
      simp only [beq_self_eq_true, Bool.and_self] at q1
      have hB5 : Below w.heap.size w (W.drewN nd) := ⟨hB4.os, hB4.tape, hB4.output, hB4.size, hB4.block⟩
      clear hO4 hO5 hA4 hC hB4
      go_wp2_with fail
      refine (num_any er _).mono ?_
      rintro e w' ⟨rfl, rfl⟩
      go_wp2_with fail
      refine (works_any _ (hE.below hB5 hE.1)).mono ?_
      rintro e w6 ⟨rfl, hb6⟩
      have hB6 := hB5.trans (hb6.mono hB5.size)
      go_wp2
      go_ret
      exact ⟨rfl, hB6⟩
end Go.Proofs.YtinfocnihngbiaaDoor
