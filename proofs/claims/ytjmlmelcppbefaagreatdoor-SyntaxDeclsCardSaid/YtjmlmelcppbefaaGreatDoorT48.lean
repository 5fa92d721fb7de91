/- What the syntax texts share, part 48. No condition. -/
import Derived.Test.YtjmlmelcppbefaaGreatDoorT38
import Derived.Test.YtjmlmelcppbefaaGreatDoorT46
namespace Go.Proofs.YtjmlmelcppbefaaGreatDoor
open Go.RowKit Go.Maps
set_option maxRecDepth 100000 in
set_option maxHeartbeats 4000000 in
theorem texts_any (s : ByteArray) (w : World) (hW : Wf w) : Calls Tryz.prog 3 #[.string s] w (Tru w) := by
 by_cases h : 4000 < s.size
 ·have hi : (4000 : Int) < (s.size : Int) := by omega
  go_enter Tryz.func3, Tryz.ntmps3
  go_wp2_with fail
  refine (works_any w hW).mono ?_
  rintro e w1 ⟨rfl, hb1⟩
  go_wp2
  go_ret
  exact ⟨rfl, hb1⟩
 ·have hi : ¬ (4000 : Int) < (s.size : Int) := by omega
  have c1 := parse_any s w hW.e hW.o
  have c2 := fun v => rparse_any s v
  generalize parseR s = R at c1 c2
  obtain ⟨l, ⟨x, y⟩, er⟩ := R
  go_enter Tryz.func3, Tryz.ntmps3
  go_wp2_with fail
  refine c1.mono ?_
  rintro e w1 ⟨hb1, a, cap, rfl, hroom, hds⟩
  dsimp only at hroom hds ⊢
  clear c1
  have hds1 : DesL (fun _ => True) w1 a l := hds.weak (fun _ _ => trivial)
  have hA : Blk (w1.alloc (.cells #[.int .i64 x, .int .i64 y] 25)) w1.heap.size 25 [.int .i64 x, .int .i64 y] := Blk.new w1 25 _
  have hBA : Below w1.heap.size w1 (w1.alloc (.cells #[.int .i64 x, .int .i64 y] 25)) := (Below.refl _ w1).alloc (Nat.le_refl _) _
  have hB2 := hb1.trans (hBA.mono hb1.size)
  have hds2 := hds1.below hBA
  clear hb1 hBA hds1 hds
  have HX := Lib.hid (And.intro hA (And.intro hB2 hds2))
  clear hA hB2 hds2
  go_wp2_with fail
  obtain ⟨hA, hB2, hds2⟩ := HX.out
  clear HX
  change Calls _ _ _ (w1.alloc (.cells #[.int .i64 x, .int .i64 y] 25)) _
  obtain ⟨ba, hba⟩ : ∃ ba, w1.heap.size = ba := ⟨_, rfl⟩
  rw [hba] at hA ⊢
  clear hba
  generalize w1.alloc (.cells #[.int .i64 x, .int .i64 y] 25) = wA at *
  refine (c2 _).mono ?_
  rintro e w2 ⟨hb2, a2, cap2, rfl, hroom2, hds3⟩
  dsimp only at hroom2 hds3 ⊢
  clear c2
  have hds4 : DesL (fun _ => True) w2 a2 l := hds3.weak (fun _ _ => trivial)
  have hC : Blk (w2.alloc (.cells #[.int .i64 x, .int .i64 y] 25)) w2.heap.size 25 [.int .i64 x, .int .i64 y] := Blk.new w2 25 _
  have hBC : Below w2.heap.size w2 (w2.alloc (.cells #[.int .i64 x, .int .i64 y] 25)) := (Below.refl _ w2).alloc (Nat.le_refl _) _
  have hb3 := hb2.trans (hBC.mono hb2.size)
  have hA3 := hA.below hb3
  have hds5 := hds4.below hBC
  have hds6 := hds2.below hb3
  have hB3 := hB2.trans (hb3.mono hB2.size)
  have HX := Lib.hid (And.intro hA3 (And.intro hC (And.intro hds5 (And.intro hds6 hB3))))
  clear hds4 hds3 hA hB2 hds2 hb2 hBC hb3 hA3 hC hds5 hds6 hB3
  have HRM := Lib.hid (And.intro hroom hroom2)
  clear hroom hroom2
  go_wp2_with fail
  obtain ⟨hA, hC, hds5, hds6, hB3⟩ := HX.out
  clear HX
  change Calls _ _ _ (w2.alloc (.cells #[.int .i64 x, .int .i64 y] 25)) _
  obtain ⟨bc, hbc⟩ : ∃ bc, w2.heap.size = bc := ⟨_, rfl⟩
  rw [hbc] at hC ⊢
  clear hbc
  generalize w2.alloc (.cells #[.int .i64 x, .int .i64 y] 25) = W at *
  have c3 := rsame2_any true l l a a2 cap cap2 W HRM.out.1 HRM.out.2 hds6 hds5
  rw [desS_refl] at c3
  refine c3.mono ?_
  rintro e w3 ⟨rfl, hb3⟩
  clear c3 hds5 hds6 HRM
  have hA4 := hA.below hb3
  have hC4 := hC.below hb3
  have hB4 := hB3.trans (hb3.mono hB3.size)
  have a0 := hA4.cell 0
  have a1 := hA4.cell 1
  have b0 := hC4.cell 0
  have b1 := hC4.cell 1
  simp only [List.getElem?_cons_zero, List.getElem?_cons_succ] at a0 a1 b0 b1
  clear hA4 hC4 hA hC hB3 hb3
  have q1 := eqp_any x y x y
  simp only [beq_self_eq_true, Bool.and_self] at q1
  have hW4 := hW.below hB4
  have HW4 := Lib.hid hW4
  clear hW hW4
  go_wp2_with (go_at_call 19; refine (num_any _ _).mono ?_; rintro e w' ⟨rfl, rfl⟩)
  refine (works_any w3 HW4.out).mono ?_
  rintro e w4 ⟨rfl, hb5⟩
  have hB5 := hB4.trans (hb5.mono hB4.size)
  go_wp2
  go_ret
  exact ⟨rfl, hB5⟩
set_option maxRecDepth 100000 in
set_option maxHeartbeats 4000000 in
theorem exprs_any (s : ByteArray) (w : World) (hW : Wf w) : Calls Tryz.prog 4 #[.string s] w (Tru w) := by
 by_cases h : 1000 < s.size
 ·have hi : (1000 : Int) < (s.size : Int) := by omega
  go_enter Tryz.func4, Tryz.ntmps4
  go_wp2_with fail
  refine (works_any w hW).mono ?_
  rintro e w1 ⟨rfl, hb1⟩
  go_wp2
  go_ret
  exact ⟨rfl, hb1⟩
 ·have hi : ¬ (1000 : Int) < (s.size : Int) := by omega
  have c1 := parse_any (⟨#[116, 104, 114, 101, 97, 100, 32, 116, 123, 112, 114, 105, 110, 116, 32]⟩ ++ s ++ ⟨#[59, 125]⟩) w hW.e hW.o
  have c2 := fun v => rparse_any (⟨#[116, 104, 114, 101, 97, 100, 32, 116, 123, 112, 114, 105, 110, 116, 32]⟩ ++ s ++ ⟨#[59, 125]⟩) v
  generalize parseR (⟨#[116, 104, 114, 101, 97, 100, 32, 116, 123, 112, 114, 105, 110, 116, 32]⟩ ++ s ++ ⟨#[59, 125]⟩) = R at c1 c2
  obtain ⟨l, ⟨x, y⟩, er⟩ := R
  go_enter Tryz.func4, Tryz.ntmps4
  go_wp2_with fail
  refine c1.mono ?_
  rintro e w1 ⟨hb1, a, cap, rfl, hroom, hds⟩
  dsimp only at hroom hds ⊢
  clear c1
  have hds1 : DesL (fun _ => True) w1 a l := hds.weak (fun _ _ => trivial)
  have hA : Blk (w1.alloc (.cells #[.int .i64 x, .int .i64 y] 25)) w1.heap.size 25 [.int .i64 x, .int .i64 y] := Blk.new w1 25 _
  have hBA : Below w1.heap.size w1 (w1.alloc (.cells #[.int .i64 x, .int .i64 y] 25)) := (Below.refl _ w1).alloc (Nat.le_refl _) _
  have hB2 := hb1.trans (hBA.mono hb1.size)
  have hds2 := hds1.below hBA
  clear hb1 hBA hds1 hds
  have HX := Lib.hid (And.intro hA (And.intro hB2 hds2))
  clear hA hB2 hds2
  go_wp2_with fail
  obtain ⟨hA, hB2, hds2⟩ := HX.out
  clear HX
  change Calls _ _ _ (w1.alloc (.cells #[.int .i64 x, .int .i64 y] 25)) _
  obtain ⟨ba, hba⟩ : ∃ ba, w1.heap.size = ba := ⟨_, rfl⟩
  rw [hba] at hA ⊢
  clear hba
  generalize w1.alloc (.cells #[.int .i64 x, .int .i64 y] 25) = wA at *
  refine (c2 _).mono ?_
  rintro e w2 ⟨hb2, a2, cap2, rfl, hroom2, hds3⟩
  dsimp only at hroom2 hds3 ⊢
  clear c2
  have hds4 : DesL (fun _ => True) w2 a2 l := hds3.weak (fun _ _ => trivial)
  have hC : Blk (w2.alloc (.cells #[.int .i64 x, .int .i64 y] 25)) w2.heap.size 25 [.int .i64 x, .int .i64 y] := Blk.new w2 25 _
  have hBC : Below w2.heap.size w2 (w2.alloc (.cells #[.int .i64 x, .int .i64 y] 25)) := (Below.refl _ w2).alloc (Nat.le_refl _) _
  have hb3 := hb2.trans (hBC.mono hb2.size)
  have hA3 := hA.below hb3
  have hds5 := hds4.below hBC
  have hds6 := hds2.below hb3
  have hB3 := hB2.trans (hb3.mono hB2.size)
  have HX := Lib.hid (And.intro hA3 (And.intro hC (And.intro hds5 (And.intro hds6 hB3))))
  clear hds4 hds3 hA hB2 hds2 hb2 hBC hb3 hA3 hC hds5 hds6 hB3
  have HRM := Lib.hid (And.intro hroom hroom2)
  clear hroom hroom2
  go_wp2_with fail
  obtain ⟨hA, hC, hds5, hds6, hB3⟩ := HX.out
  clear HX
  change Calls _ _ _ (w2.alloc (.cells #[.int .i64 x, .int .i64 y] 25)) _
  obtain ⟨bc, hbc⟩ : ∃ bc, w2.heap.size = bc := ⟨_, rfl⟩
  rw [hbc] at hC ⊢
  clear hbc
  generalize w2.alloc (.cells #[.int .i64 x, .int .i64 y] 25) = W at *
  have c3 := rsame2_any true l l a a2 cap cap2 W HRM.out.1 HRM.out.2 hds6 hds5
  rw [desS_refl] at c3
  refine c3.mono ?_
  rintro e w3 ⟨rfl, hb3⟩
  clear c3 hds5 hds6 HRM
  have hA4 := hA.below hb3
  have hC4 := hC.below hb3
  have hB4 := hB3.trans (hb3.mono hB3.size)
  have a0 := hA4.cell 0
  have a1 := hA4.cell 1
  have b0 := hC4.cell 0
  have b1 := hC4.cell 1
  simp only [List.getElem?_cons_zero, List.getElem?_cons_succ] at a0 a1 b0 b1
  clear hA4 hC4 hA hC hB3 hb3
  have q1 := eqp_any x y x y
  simp only [beq_self_eq_true, Bool.and_self] at q1
  have hW4 := hW.below hB4
  have HW4 := Lib.hid hW4
  clear hW hW4
  go_wp2_with (go_at_call 19; refine (num_any _ _).mono ?_; rintro e w' ⟨rfl, rfl⟩)
  refine (works_any w3 HW4.out).mono ?_
  rintro e w4 ⟨rfl, hb5⟩
  have hB5 := hB4.trans (hb5.mono hB4.size)
  go_wp2
  go_ret
  exact ⟨rfl, hB5⟩
set_option maxRecDepth 100000 in
set_option maxHeartbeats 4000000 in
theorem stmts_any (s : ByteArray) (w : World) (hW : Wf w) : Calls Tryz.prog 5 #[.string s] w (Tru w) := by
 by_cases h : 2000 < s.size
 ·have hi : (2000 : Int) < (s.size : Int) := by omega
  go_enter Tryz.func5, Tryz.ntmps5
  go_wp2_with fail
  refine (works_any w hW).mono ?_
  rintro e w1 ⟨rfl, hb1⟩
  go_wp2
  go_ret
  exact ⟨rfl, hb1⟩
 ·have hi : ¬ (2000 : Int) < (s.size : Int) := by omega
  have c1 := parse_any (⟨#[116, 104, 114, 101, 97, 100, 32, 116, 123]⟩ ++ s ++ ⟨#[125]⟩) w hW.e hW.o
  have c2 := fun v => rparse_any (⟨#[116, 104, 114, 101, 97, 100, 32, 116, 123]⟩ ++ s ++ ⟨#[125]⟩) v
  generalize parseR (⟨#[116, 104, 114, 101, 97, 100, 32, 116, 123]⟩ ++ s ++ ⟨#[125]⟩) = R at c1 c2
  obtain ⟨l, ⟨x, y⟩, er⟩ := R
  go_enter Tryz.func5, Tryz.ntmps5
  go_wp2_with fail
  refine c1.mono ?_
  rintro e w1 ⟨hb1, a, cap, rfl, hroom, hds⟩
  dsimp only at hroom hds ⊢
  clear c1
  have hds1 : DesL (fun _ => True) w1 a l := hds.weak (fun _ _ => trivial)
  have hA : Blk (w1.alloc (.cells #[.int .i64 x, .int .i64 y] 25)) w1.heap.size 25 [.int .i64 x, .int .i64 y] := Blk.new w1 25 _
  have hBA : Below w1.heap.size w1 (w1.alloc (.cells #[.int .i64 x, .int .i64 y] 25)) := (Below.refl _ w1).alloc (Nat.le_refl _) _
  have hB2 := hb1.trans (hBA.mono hb1.size)
  have hds2 := hds1.below hBA
  clear hb1 hBA hds1 hds
  have HX := Lib.hid (And.intro hA (And.intro hB2 hds2))
  clear hA hB2 hds2
  go_wp2_with fail
  obtain ⟨hA, hB2, hds2⟩ := HX.out
  clear HX
  change Calls _ _ _ (w1.alloc (.cells #[.int .i64 x, .int .i64 y] 25)) _
  obtain ⟨ba, hba⟩ : ∃ ba, w1.heap.size = ba := ⟨_, rfl⟩
  rw [hba] at hA ⊢
  clear hba
  generalize w1.alloc (.cells #[.int .i64 x, .int .i64 y] 25) = wA at *
  refine (c2 _).mono ?_
  rintro e w2 ⟨hb2, a2, cap2, rfl, hroom2, hds3⟩
  dsimp only at hroom2 hds3 ⊢
  clear c2
  have hds4 : DesL (fun _ => True) w2 a2 l := hds3.weak (fun _ _ => trivial)
  have hC : Blk (w2.alloc (.cells #[.int .i64 x, .int .i64 y] 25)) w2.heap.size 25 [.int .i64 x, .int .i64 y] := Blk.new w2 25 _
  have hBC : Below w2.heap.size w2 (w2.alloc (.cells #[.int .i64 x, .int .i64 y] 25)) := (Below.refl _ w2).alloc (Nat.le_refl _) _
  have hb3 := hb2.trans (hBC.mono hb2.size)
  have hA3 := hA.below hb3
  have hds5 := hds4.below hBC
  have hds6 := hds2.below hb3
  have hB3 := hB2.trans (hb3.mono hB2.size)
  have HX := Lib.hid (And.intro hA3 (And.intro hC (And.intro hds5 (And.intro hds6 hB3))))
  clear hds4 hds3 hA hB2 hds2 hb2 hBC hb3 hA3 hC hds5 hds6 hB3
  have HRM := Lib.hid (And.intro hroom hroom2)
  clear hroom hroom2
  go_wp2_with fail
  obtain ⟨hA, hC, hds5, hds6, hB3⟩ := HX.out
  clear HX
  change Calls _ _ _ (w2.alloc (.cells #[.int .i64 x, .int .i64 y] 25)) _
  obtain ⟨bc, hbc⟩ : ∃ bc, w2.heap.size = bc := ⟨_, rfl⟩
  rw [hbc] at hC ⊢
  clear hbc
  generalize w2.alloc (.cells #[.int .i64 x, .int .i64 y] 25) = W at *
  have c3 := rsame2_any true l l a a2 cap cap2 W HRM.out.1 HRM.out.2 hds6 hds5
  rw [desS_refl] at c3
  refine c3.mono ?_
  rintro e w3 ⟨rfl, hb3⟩
  clear c3 hds5 hds6 HRM
  have hA4 := hA.below hb3
  have hC4 := hC.below hb3
  have hB4 := hB3.trans (hb3.mono hB3.size)
  have a0 := hA4.cell 0
  have a1 := hA4.cell 1
  have b0 := hC4.cell 0
  have b1 := hC4.cell 1
  simp only [List.getElem?_cons_zero, List.getElem?_cons_succ] at a0 a1 b0 b1
  clear hA4 hC4 hA hC hB3 hb3
  have q1 := eqp_any x y x y
  simp only [beq_self_eq_true, Bool.and_self] at q1
  have hW4 := hW.below hB4
  have HW4 := Lib.hid hW4
  clear hW hW4
  go_wp2_with (go_at_call 19; refine (num_any _ _).mono ?_; rintro e w' ⟨rfl, rfl⟩)
  refine (works_any w3 HW4.out).mono ?_
  rintro e w4 ⟨rfl, hb5⟩
  have hB5 := hB4.trans (hb5.mono hB4.size)
  go_wp2
  go_ret
  exact ⟨rfl, hB5⟩
set_option maxRecDepth 100000 in
set_option maxHeartbeats 4000000 in
theorem decls_any (s : ByteArray) (w : World) (hW : Wf w) : Calls Tryz.prog 9 #[.string s] w (Tru w) := by
 by_cases h : 500 < s.size
 ·have hi : (500 : Int) < (s.size : Int) := by omega
  go_enter Tryz.func9, Tryz.ntmps9
  go_wp2_with fail
  refine (works_any w hW).mono ?_
  rintro e w1 ⟨rfl, hb1⟩
  go_wp2
  go_ret
  exact ⟨rfl, hb1⟩
 ·have hi : ¬ (500 : Int) < (s.size : Int) := by omega
  have c1 := parse_any (⟨#[99, 111, 110, 100, 32, 99, 59, 10]⟩ ++ s) w hW.e hW.o
  have c2 := fun v => rparse_any (⟨#[99, 111, 110, 100, 32, 99, 59, 10]⟩ ++ s) v
  generalize parseR (⟨#[99, 111, 110, 100, 32, 99, 59, 10]⟩ ++ s) = R at c1 c2
  obtain ⟨l, ⟨x, y⟩, er⟩ := R
  go_enter Tryz.func9, Tryz.ntmps9
  go_wp2_with fail
  refine c1.mono ?_
  rintro e w1 ⟨hb1, a, cap, rfl, hroom, hds⟩
  dsimp only at hroom hds ⊢
  clear c1
  have hds1 : DesL (fun _ => True) w1 a l := hds.weak (fun _ _ => trivial)
  have hA : Blk (w1.alloc (.cells #[.int .i64 x, .int .i64 y] 25)) w1.heap.size 25 [.int .i64 x, .int .i64 y] := Blk.new w1 25 _
  have hBA : Below w1.heap.size w1 (w1.alloc (.cells #[.int .i64 x, .int .i64 y] 25)) := (Below.refl _ w1).alloc (Nat.le_refl _) _
  have hB2 := hb1.trans (hBA.mono hb1.size)
  have hds2 := hds1.below hBA
  clear hb1 hBA hds1 hds
  have HX := Lib.hid (And.intro hA (And.intro hB2 hds2))
  clear hA hB2 hds2
  go_wp2_with fail
  obtain ⟨hA, hB2, hds2⟩ := HX.out
  clear HX
  change Calls _ _ _ (w1.alloc (.cells #[.int .i64 x, .int .i64 y] 25)) _
  obtain ⟨ba, hba⟩ : ∃ ba, w1.heap.size = ba := ⟨_, rfl⟩
  rw [hba] at hA ⊢
  clear hba
  generalize w1.alloc (.cells #[.int .i64 x, .int .i64 y] 25) = wA at *
  refine (c2 _).mono ?_
  rintro e w2 ⟨hb2, a2, cap2, rfl, hroom2, hds3⟩
  dsimp only at hroom2 hds3 ⊢
  clear c2
  have hds4 : DesL (fun _ => True) w2 a2 l := hds3.weak (fun _ _ => trivial)
  have hC : Blk (w2.alloc (.cells #[.int .i64 x, .int .i64 y] 25)) w2.heap.size 25 [.int .i64 x, .int .i64 y] := Blk.new w2 25 _
  have hBC : Below w2.heap.size w2 (w2.alloc (.cells #[.int .i64 x, .int .i64 y] 25)) := (Below.refl _ w2).alloc (Nat.le_refl _) _
  have hb3 := hb2.trans (hBC.mono hb2.size)
  have hA3 := hA.below hb3
  have hds5 := hds4.below hBC
  have hds6 := hds2.below hb3
  have hB3 := hB2.trans (hb3.mono hB2.size)
  have HX := Lib.hid (And.intro hA3 (And.intro hC (And.intro hds5 (And.intro hds6 hB3))))
  clear hds4 hds3 hA hB2 hds2 hb2 hBC hb3 hA3 hC hds5 hds6 hB3
  have HRM := Lib.hid (And.intro hroom hroom2)
  clear hroom hroom2
  go_wp2_with fail
  obtain ⟨hA, hC, hds5, hds6, hB3⟩ := HX.out
  clear HX
  change Calls _ _ _ (w2.alloc (.cells #[.int .i64 x, .int .i64 y] 25)) _
  obtain ⟨bc, hbc⟩ : ∃ bc, w2.heap.size = bc := ⟨_, rfl⟩
  rw [hbc] at hC ⊢
  clear hbc
  generalize w2.alloc (.cells #[.int .i64 x, .int .i64 y] 25) = W at *
  have c3 := rsame2_any true l l a a2 cap cap2 W HRM.out.1 HRM.out.2 hds6 hds5
  rw [desS_refl] at c3
  refine c3.mono ?_
  rintro e w3 ⟨rfl, hb3⟩
  clear c3 hds5 hds6 HRM
  have hA4 := hA.below hb3
  have hC4 := hC.below hb3
  have hB4 := hB3.trans (hb3.mono hB3.size)
  have a0 := hA4.cell 0
  have a1 := hA4.cell 1
  have b0 := hC4.cell 0
  have b1 := hC4.cell 1
  simp only [List.getElem?_cons_zero, List.getElem?_cons_succ] at a0 a1 b0 b1
  clear hA4 hC4 hA hC hB3 hb3
  have q1 := eqp_any x y x y
  simp only [beq_self_eq_true, Bool.and_self] at q1
  have hW4 := hW.below hB4
  have HW4 := Lib.hid hW4
  clear hW hW4
  go_wp2_with (go_at_call 19; refine (num_any _ _).mono ?_; rintro e w' ⟨rfl, rfl⟩)
  refine (works_any w3 HW4.out).mono ?_
  rintro e w4 ⟨rfl, hb5⟩
  have hB5 := hB4.trans (hb5.mono hB4.size)
  go_wp2
  go_ret
  exact ⟨rfl, hB5⟩
end Go.Proofs.YtjmlmelcppbefaaGreatDoor
