/- What the syntax texts share, part 46. No condition. -/
import Derived.Test.YtjmlmelcppbefaaGreatDoorT22
import Derived.Test.YtjmlmelcppbefaaGreatDoorT30
import Derived.Test.YtjmlmelcppbefaaGreatDoorX1
import Derived.Test.YtjmlmelcppbefaaGreatDoorT45
set_option maxRecDepth 100000
namespace Go.Proofs.YtjmlmelcppbefaaGreatDoor
open Go.RowKit
def sP1 : ByteArray := ⟨#[118, 97, 114, 32, 120, 61, 45, 51, 59, 116, 104, 114, 101, 97, 100, 32, 109, 97, 105, 110, 123, 112, 114, 105, 110, 116, 40, 120, 43, 49, 41, 42, 50, 59, 125]⟩
def sP2 : ByteArray := ⟨#[118, 97, 114, 32, 120, 32, 51, 59]⟩
def rP1 : List Wd := [⟨3, ⟨#[118, 97, 114]⟩, 0, 1, 1⟩, ⟨1, ⟨#[120]⟩, 0, 1, 5⟩, ⟨4, ⟨#[61]⟩, 0, 1, 6⟩, ⟨4, ⟨#[45]⟩, 0, 1, 7⟩, ⟨2, ⟨#[51]⟩, 3, 1, 8⟩, ⟨4, ⟨#[59]⟩, 0, 1, 9⟩, ⟨3, ⟨#[116, 104, 114, 101, 97, 100]⟩, 0, 1, 10⟩, ⟨1, ⟨#[109, 97, 105, 110]⟩, 0, 1, 17⟩, ⟨4, ⟨#[123]⟩, 0, 1, 21⟩, ⟨3, ⟨#[112, 114, 105, 110, 116]⟩, 0, 1, 22⟩, ⟨4, ⟨#[40]⟩, 0, 1, 27⟩, ⟨1, ⟨#[120]⟩, 0, 1, 28⟩, ⟨4, ⟨#[43]⟩, 0, 1, 29⟩, ⟨2, ⟨#[49]⟩, 1, 1, 30⟩, ⟨4, ⟨#[41]⟩, 0, 1, 31⟩, ⟨4, ⟨#[42]⟩, 0, 1, 32⟩, ⟨2, ⟨#[50]⟩, 2, 1, 33⟩, ⟨4, ⟨#[59]⟩, 0, 1, 34⟩, ⟨4, ⟨#[125]⟩, 0, 1, 35⟩]
def rP2 : List Wd := [⟨3, ⟨#[118, 97, 114]⟩, 0, 1, 1⟩, ⟨1, ⟨#[120]⟩, 0, 1, 5⟩, ⟨2, ⟨#[51]⟩, 3, 1, 7⟩, ⟨4, ⟨#[59]⟩, 0, 1, 8⟩]
def oP1 : List UInt8 := [118, 97, 114, 32, 120, 32, 61, 32, 45, 51, 59, 10, 116, 104, 114, 101, 97, 100, 32, 109, 97, 105, 110, 32, 123, 10, 9, 112, 114, 105, 110, 116, 32, 40, 120, 32, 43, 32, 49, 41, 32, 42, 32, 50, 59, 10, 125, 10]
def lP1 : List De := [⟨1, 1, 1, ⟨#[120]⟩, -3, []⟩, ⟨6, 1, 10, ⟨#[109, 97, 105, 110]⟩, 0, [.mk 15 1 22 noB noB (.mk 6 0 noB 0 false 9 [.mk 6 0 noB 0 false 7 [.mk 2 0 ⟨#[120]⟩ 0 false 0 [], .mk 1 1 noB 0 false 0 []], .mk 1 2 noB 0 false 0 []]) zEx [] [] 0 0 0 false]⟩]
theorem lexP1 : lexR sP1 = (rP1, (0, 0), 0) := lexR_of 40 (by decide) (by decide) (by kernel_rfl)
theorem lexP2 : lexR sP2 = (rP2, (0, 0), 0) := lexR_of 40 (by decide) (by decide) (by kernel_rfl)
theorem pdP1 : pDs rP1 20 [] 0 = some (.ok (lP1, 19)) := by kernel_rfl
theorem pdP2 : pDs rP2 5 [] 0 = some (.error 2) := by kernel_rfl
theorem deP1 : deDeep lP1 = none := by kernel_rfl
theorem paP1 : parseR sP1 = (lP1, (0, 0), 0) := by
 unfold parseR
 rw [lexP1]
 dsimp only
 rw [if_pos rfl, show rP1.length + 1 = 20 from rfl, pdP1]
 dsimp only
 rw [deP1]
theorem paP2 : parseR sP2 = ([], (1, 7), 120) := by
 unfold parseR
 rw [lexP2]
 dsimp only
 rw [if_pos rfl, show rP2.length + 1 = 5 from rfl, pdP2]
 rfl
theorem prP1 : prT lP1 = oP1 := by kernel_rfl
theorem mayP1 : desR isName lP1 = true := by kernel_rfl
theorem nbP1 : ∀ d ∈ lP1, d.nb := by
 intro d hd
 simp only [lP1, List.mem_cons, List.not_mem_nil, or_false] at hd
 rcases hd with rfl | rfl
 ·simp [De.nb, St.nbs]
  decide
 ·simp [De.nb, St.nbs, St.nb, Ex.nb, Ex.nbs, zEx]
  decide
end Go.Proofs.YtjmlmelcppbefaaGreatDoor
namespace Go.Proofs.YtjmlmelcppbefaaGreatDoor
open Go.RowKit Go.Maps
structure Wf (w : World) : Prop where
 o : Ops w
 t : Tab w
 s : 7 < w.heap.size
 h : Shs w
 e : ErrR w
theorem Wf.below {w w' : World} (h : Wf w) (hb : Below w.heap.size w w') : Wf w' :=
 ⟨h.o.below hb, Tab.below h.t hb (by have := h.s; omega), by have := h.s; have := hb.size; omega, h.h.below hb, h.e.below hb (by have := h.s; omega)⟩
theorem Wf.env {w : World} (h : Wf w) : Env w := ⟨h.o, h.t, h.s⟩
set_option maxHeartbeats 400000 in
theorem num_any (x : Int) (w : World) : Calls Tryz.prog 19 #[.int .i64 x] w fun e w' => e = .returned (.int .i64 x) ∧ w = w' := by
 go_enter Tryz.func19, Tryz.ntmps19
 go_wp2
 go_ret
 exact ⟨rfl, rfl⟩
abbrev Tru (w : World) (e : Ending) (w' : World) : Prop := e = .returned (.bool true) ∧ Below w.heap.size w w'
set_option maxHeartbeats 4000000 in
theorem works_any (w : World) (hW : Wf w) : Calls Tryz.prog 15 #[] w (Tru w) := by
 have c1 := parse_any sP1 w hW.e hW.o
 rw [paP1] at c1
 go_enter Tryz.func15, Tryz.ntmps15
 go_wp2_with fail
 refine c1.mono ?_
 rintro e w1 ⟨hb1, a, cap, rfl, hroom, hds⟩
 clear c1
 have hds1 : DesL (fun _ => True) w1 a lP1 := hds.weak (fun _ _ => trivial)
 have hW1 := hW.below hb1
 have hA : Blk (w1.alloc (.cells #[.int .i64 0, .int .i64 0] 25)) w1.heap.size 25 [.int .i64 0, .int .i64 0] := Blk.new w1 25 _
 have hBA : Below w1.heap.size w1 (w1.alloc (.cells #[.int .i64 0, .int .i64 0] 25)) := (Below.refl _ w1).alloc (Nat.le_refl _) _
 have hB2 := hb1.trans (hBA.mono hb1.size)
 have hW2 := hW1.below hBA
 have hds2 := hds1.below hBA
 clear hb1 hW1 hBA hds1 hds
 go_wp2_with fail
 change Calls _ _ _ (w1.alloc (.cells #[.int .i64 0, .int .i64 0] 25)) _
 obtain ⟨ba, hba⟩ : ∃ ba, w1.heap.size = ba := ⟨_, rfl⟩
 rw [hba] at hA ⊢
 clear hba
 generalize w1.alloc (.cells #[.int .i64 0, .int .i64 0] 25) = wA at *
 have c2 := print_any hW2.env hW2.h lP1 a cap hroom hds2 nbP1 (by rw [prP1]; decide) (by rw [prP1]; decide)
 rw [mayP1, prP1, if_pos rfl, if_pos rfl] at c2
 refine c2.mono ?_
 rintro e w2 ⟨rfl, hb2⟩
 have hA2 := hA.below hb2
 have hW3 := hW2.below hb2
 have hB3 := hB2.trans (hb2.mono hB2.size)
 clear c2 hA hW2 hds2 hb2 hB2
 have c3 := parse_any sP2 w2 hW3.e hW3.o
 rw [paP2] at c3
 go_wp2_with fail
 refine c3.mono ?_
 rintro e w3 ⟨hb3, a3, cap3, rfl, -, -⟩
 clear c3
 have hA3 := hA2.below hb3
 have hB4 := hB3.trans (hb3.mono hB3.size)
 have hA4 := hA3.alloc (.cells #[.int .i64 1, .int .i64 7] 25)
 have hC := Blk.new w3 25 [.int .i64 1, .int .i64 7]
 have hB5 := hB4.alloc hB4.size (.cells #[.int .i64 1, .int .i64 7] 25)
 have q1 := eqp_any 0 0 0 0
 have q2 := eqp_any 1 7 1 7
 have q3 : lP1.length = 2 := rfl
 rw [q3]
 clear hW3 hA2 hB3 hb3 hA3 hB4 q3
 go_upto_region 4 with fail
 change Code.wp _ _ _ _ (w3.alloc (.cells #[.int .i64 1, .int .i64 7] 25))
 obtain ⟨bc, hbc⟩ : ∃ bc, w3.heap.size = bc := ⟨_, rfl⟩
 rw [hbc] at hC ⊢
 clear hbc
 generalize w3.alloc (.cells #[.int .i64 1, .int .i64 7] 25) = W at *
 have a0 := hA4.cell 0
 have a1 := hA4.cell 1
 have b0 := hC.cell 0
 have b1 := hC.cell 1
 simp only [List.getElem?_cons_zero, List.getElem?_cons_succ] at a0 a1 b0 b1
 clear hA4 hC
 go_wp2_with (go_at_call 19; refine (num_any _ _).mono ?_; rintro e w' ⟨rfl, rfl⟩)
 go_ret
 exact ⟨rfl, hB5⟩
end Go.Proofs.YtjmlmelcppbefaaGreatDoor
