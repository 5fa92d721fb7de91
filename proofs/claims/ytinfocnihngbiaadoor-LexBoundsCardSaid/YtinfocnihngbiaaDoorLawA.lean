/- The statements on ends, names and texts hold. Asked: strconv's ErrRange is laid. -/
import Derived.Test.YtinfocnihngbiaaDoorWorks
import Derived.Test.YtinfocnihngbiaaDoorRname
import Derived.Test.YtinfocnihngbiaaDoorEnd
namespace Go.Proofs.YtinfocnihngbiaaDoor
open Go.RowKit

abbrev Tru (w : World) (e : Ending) (w' : World) : Prop := e = .returned (.bool true) ∧ Below w.heap.size w w'

set_option maxRecDepth 100000 in
set_option maxHeartbeats 4000000 in
theorem ends_any (s : ByteArray) (w : World) (hE : ErrR w) : Calls Tryd.prog 8 #[.string s] w (Tru w) := by
  by_cases h : 4000 < s.size
  · have hi : (4000 : Int) < (s.size : Int) := by omega
    go_enter Tryd.func8, Tryd.ntmps8
    go_wp2_with fail
    refine (works_any w hE).mono ?_
    rintro e w1 ⟨rfl, hb1⟩
    go_wp2
    go_ret
    exact ⟨rfl, hb1⟩
  · have hi : ¬ (4000 : Int) < (s.size : Int) := by omega
    have c1 := end_any s w (by omega)
    obtain ⟨x, hx⟩ : ∃ x, (posAt s s.size).1 = x := ⟨_, rfl⟩
    obtain ⟨y, hy⟩ : ∃ y, (posAt s s.size).2 = y := ⟨_, rfl⟩
    have c2 := fun w => rend_any s w (by omega)
    simp only [hx, hy] at c1 c2
    have q1 := eqp_any x y x y
    simp only [beq_self_eq_true, Bool.and_self] at q1
    clear hx hy
    go_enter Tryd.func8, Tryd.ntmps8
    go_wp2_with fail
    refine c1.mono ?_
    rintro e w1 ⟨rfl, hb1⟩
    go_wp2_with fail
    refine (c2 _).mono ?_
    rintro e w2 ⟨rfl, hb2⟩
    clear c1 c2
    have hB := hb1.trans (hb2.mono hb1.size)
    have hE2 := hE.below hB hE.1
    clear hb1 hb2
    go_wp2_with fail
    refine (works_any w2 hE2).mono ?_
    rintro e w3 ⟨rfl, hb3⟩
    have hB3 := hB.trans (hb3.mono hB.size)
    go_wp2
    go_ret
    exact ⟨rfl, hB3⟩

set_option maxRecDepth 100000 in
set_option maxHeartbeats 4000000 in
theorem names_any (s : ByteArray) (w : World) (hE : ErrR w) : Calls Tryd.prog 9 #[.string s] w (Tru w) := by
  by_cases h : 500 < s.size
  · have hi : (500 : Int) < (s.size : Int) := by omega
    go_enter Tryd.func9, Tryd.ntmps9
    go_wp2_with fail
    refine (works_any w hE).mono ?_
    rintro e w1 ⟨rfl, hb1⟩
    go_wp2
    go_ret
    exact ⟨rfl, hb1⟩
  · have hi : ¬ (500 : Int) < (s.size : Int) := by omega
    have c1 := name_any s w (by omega)
    have c2 := fun w => rname_any s w (by omega)
    have c3 := fun w => keyword_any s w (by omega)
    have c4 := fun w => rkeyword_any s w
    obtain ⟨x, hx⟩ : ∃ x, isName s = x := ⟨_, rfl⟩
    obtain ⟨y, hy⟩ : ∃ y, isKw s.data.toList = y := ⟨_, rfl⟩
    simp only [hx, hy] at c1 c2 c3 c4
    clear hx hy
    go_enter Tryd.func9, Tryd.ntmps9
    go_wp2_with fail
    refine c1.mono ?_
    rintro e w1 ⟨rfl, hb1⟩
    go_wp2_with fail
    refine (c2 _).mono ?_
    rintro e w2 ⟨rfl, hb2⟩
    have hB := hb1.trans (hb2.mono hb1.size)
    clear hb1 hb2 c1 c2
    go_wp2_with fail
    refine (c3 _).mono ?_
    rintro e w3 ⟨rfl, hb3⟩
    have hB3 := hB.trans (hb3.mono hB.size)
    clear hb3 hB c3
    go_wp2_with fail
    refine (c4 _).mono ?_
    rintro e w4 ⟨rfl, hb4⟩
    have hB4 := hB3.trans (hb4.mono hB3.size)
    clear hb4 hB3 c4
    have hE2 := hE.below hB4 hE.1
    go_wp2_with fail
    refine (works_any w4 hE2).mono ?_
    rintro e w5 ⟨rfl, hb5⟩
    have hB5 := hB4.trans (hb5.mono hB4.size)
    go_wp2
    go_ret
    exact ⟨rfl, hB5⟩

set_option maxRecDepth 100000 in
set_option maxHeartbeats 4000000 in
theorem texts_any (s : ByteArray) (w : World) (hE : ErrR w) : Calls Tryd.prog 3 #[.string s] w (Tru w) := by
  by_cases h : 4000 < s.size
  · have hi : (4000 : Int) < (s.size : Int) := by omega
    go_enter Tryd.func3, Tryd.ntmps3
    go_wp2_with fail
    refine (works_any w hE).mono ?_
    rintro e w1 ⟨rfl, hb1⟩
    go_wp2
    go_ret
    exact ⟨rfl, hb1⟩
  · have hi : ¬ (4000 : Int) < (s.size : Int) := by omega
    have c1 := lex_out s w hE
    have c2 := rlex_out s
    have hlen := lexR_len s
    obtain ⟨⟨l, ⟨x, y⟩, er⟩, hR⟩ : ∃ R, lexR s = R := ⟨_, rfl⟩
    rw [hR] at c1 hlen
    simp only [hR] at c2
    clear hR
    go_enter Tryd.func3, Tryd.ntmps3
    go_wp2_with fail
    refine c1.mono ?_
    rintro e w1 ⟨a1, cap1, rfl, hO1, hb1⟩
    clear c1
    go_wp2_with fail
    have hA : Ps (w1.alloc (.cells #[.int .i64 x, .int .i64 y] 25)) w1.heap.size (x, y) := World.alloc_heap_new _ _
    have hBA : Below w1.heap.size w1 (w1.alloc (.cells #[.int .i64 x, .int .i64 y] 25)) := (Below.refl _ w1).alloc (Nat.le_refl _) _
    have hO2 := hO1.below hBA
    have hB2 := hb1.trans (hBA.mono hb1.size)
    clear hO1 hBA hb1
    change Calls _ _ _ (w1.alloc (.cells #[.int .i64 x, .int .i64 y] 25)) _
    obtain ⟨ba, hba⟩ : ∃ ba, w1.heap.size = ba := ⟨_, rfl⟩
    rw [hba] at hA ⊢
    generalize w1.alloc (.cells #[.int .i64 x, .int .i64 y] 25) = wA at *
    clear hba
    refine (c2 wA).mono ?_
    rintro e w3 ⟨a2, cap2, rfl, hO3, hb3⟩
    clear c2
    go_wp2_with fail
    have hC : Ps (w3.alloc (.cells #[.int .i64 x, .int .i64 y] 25)) w3.heap.size (x, y) := World.alloc_heap_new _ _
    have hBC : Below w3.heap.size w3 (w3.alloc (.cells #[.int .i64 x, .int .i64 y] 25)) := (Below.refl _ w3).alloc (Nat.le_refl _) _
    have hO4 := (hO2.below hb3).below hBC
    have hO5 := hO3.below hBC
    have hA4 := (hA.below hb3 hA.lt).alloc (.cells #[.int .i64 x, .int .i64 y] 25)
    have hB3 := hB2.trans (hb3.mono hB2.size)
    have hB4 := hB3.trans (hBC.mono hB3.size)
    clear hO3 hO2 hb3 hBC hB3 hB2 hA
    change Calls _ _ _ (w3.alloc (.cells #[.int .i64 x, .int .i64 y] 25)) _
    obtain ⟨bc, hbc⟩ : ∃ bc, w3.heap.size = bc := ⟨_, rfl⟩
    rw [hbc] at hC ⊢
    generalize w3.alloc (.cells #[.int .i64 x, .int .i64 y] 25) = W at *
    clear hbc
    refine (wsame_in (w := W) rfl rfl (Nat.le_trans hlen (by decide)) hO4.wds hO5.wds).mono ?_
    rw [wdsE_refl]
    rintro e w5 ⟨rfl, nd, rfl⟩
    have a0 : W.cell? ⟨ba, 0, none⟩ = some (.int .i64 x) := hA4.c0
    have e1 : W.cell? ⟨ba, 1, none⟩ = some (.int .i64 y) := hA4.c1
    have b0 : W.cell? ⟨bc, 0, none⟩ = some (.int .i64 x) := hC.c0
    have b1 : W.cell? ⟨bc, 1, none⟩ = some (.int .i64 y) := hC.c1
    have q1 := eqp_any x y x y
    simp only [beq_self_eq_true, Bool.and_self] at q1
    have hB5 : Below w.heap.size w (W.drewN nd) := ⟨hB4.os, hB4.tape, hB4.output, hB4.size, hB4.block⟩
    clear hO4 hO5 hA4 hC hB4
    go_wp2_with fail
    refine (num_any er _).mono ?_
    rintro e w' ⟨rfl, rfl⟩
    go_wp2_with fail
    refine (works_any _ (hE.below hB5 hE.1)).mono ?_
    rintro e w6 ⟨rfl, hb6⟩
    have hB6 := hB5.trans (hb6.mono hB5.size)
    go_wp2
    go_ret
    exact ⟨rfl, hB6⟩
end Go.Proofs.YtinfocnihngbiaaDoor
