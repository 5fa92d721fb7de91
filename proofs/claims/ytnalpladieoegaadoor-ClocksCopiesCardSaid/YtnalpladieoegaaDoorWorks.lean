/- The laws' common call: a watch of two threads and a place, a few calls, and what they tell: true. Asked: the table of powers of ten is laid. -/
import Derived.Test.YtnalpladieoegaaDoorNew
import Derived.Test.YtnalpladieoegaaDoorMove
import Derived.Test.YtnalpladieoegaaDoorOrders
import Derived.Test.YtnalpladieoegaaDoorRtext
namespace Go.Proofs.YtnalpladieoegaaDoor
open Go.RowKit Go.Shelf

def k1 : Ck := fun i => if i = 0 then 1 else 0
def k01 : Ck := fun i => if i = 1 then 1 else 0
def k11 : Ck := fun i => if i < 2 then 1 else 0
theorem tk_z : tk (at_ (zs 2) 0) (0 : Nat) = (upd z0 0 1, 0) := rfl
def th1 : List Ck := (zs 2).set 0 (upd z0 0 1)
def pl1 : List Ck := (zs 1).set 0 (jn (at_ (zs 1) 0) (at_ th1 0))
def th2 : List Ck := th1.set 1 (jn (at_ th1 1) (at_ pl1 0))
def d11 : Ck := upd (at_ th2 1) 1 (at_ th2 1 1 + 1)
theorem tk_2 : tk (at_ th2 1) (1 : Nat) = (d11, 0) := rfl
theorem d11_cl : cl d11 = cl k11 := rfl
theorem k11_fit : Fit k11 := fun i _ => by unfold k11; split <;> omega
theorem k11_txt : txt k11 = ⟨#[49, 32, 49]⟩ := by
  have hm : many k11 = 2 := rfl
  unfold txt
  rw [hm]
  have e : (List.range 2).map (fun i => Lib.itoa (k11 i)) = [Lib.itoa 1, Lib.itoa 1] := rfl
  have h1 : Lib.itoa 1 = [49] := by
    unfold Lib.itoa
    rw [if_neg (by decide)]
    rw [show (1 : Int).toNat = 1 from rfl, Lib.decDigits]
    rfl
  rw [e, h1]
  rfl

set_option maxRecDepth 100000 in
set_option maxHeartbeats 4000000 in
theorem works_any (w : World) (ht : Tab w) (h0 : 0 < w.heap.size) : Calls Tryd.prog 15 #[] w fun e w' => e = .returned (.bool true) ∧ Below w.heap.size w w' := by
  have heq : ∀ w, (Op.equalIn 10000 23 (.agg #[.int .i64 1, .int .i64 1, .int .i64 0, .int .i64 0, .int .i64 0, .int .i64 0, .int .i64 0, .int .i64 0]) (.agg #[.int .i64 1, .int .i64 1, .int .i64 0, .int .i64 0, .int .i64 0, .int .i64 0, .int .i64 0, .int .i64 0])).run Tryd.prog w = .ok true w := fun w => eqc_run Tryd.underlying23 k11 k11 w
  go_enter Tryd.func15, Tryd.ntmps15
  go_wp2_with fail
  have c1 : Calls Tryd.prog 26 #[.int .i64 2, .int .i64 1] w (NewPost 2 1 w) := new_in 2 1 w (by decide) (by decide) (by decide)
  refine c1.mono ?_
  rintro e w1 ⟨p, tb, pb, rfl, hW1, hB1, g1, g2, g3⟩
  clear c1
  go_wp2_with fail
  have c2 : Calls Tryd.prog 29 #[.pointer (some ⟨p, 0, none⟩), .int .i64 0] w1 _ := step_ok hW1 (i := 0) (d := upd z0 0 1) (by decide) (by decide) tk_z
  refine c2.mono ?_
  rintro e w2 ⟨rfl, hW2, hg2⟩
  clear c2
  have hB2 : Below w.heap.size w w2 := hB1.grown hg2 hB1.size (fun k e => by cases e; exact g2)
  have hW3 := hW2.kept (grown_alloc w2 (.cells (cl (upd z0 0 1)) 23))
  have hB3 := hB2.alloc hB2.size (.cells (cl (upd z0 0 1)) 23)
  clear hg2 hW2 hB2 hW1 hB1
  go_wp2_with fail
  change Calls _ _ _ (w2.alloc (.cells (cl (upd z0 0 1)) 23)) _
  generalize w2.alloc (.cells (cl (upd z0 0 1)) 23) = W3 at *
  have c3 : Calls Tryd.prog 36 #[.pointer (some ⟨p, 0, none⟩), .int .i64 0, .int .i64 0] W3 _ := give_in hW3 (i := 0) (j := 0) (by decide) (by decide) (by decide) (by decide)
  refine c3.mono ?_
  rintro e w4 ⟨rfl, hW4, hg4⟩
  clear c3
  have hB4 : Below w.heap.size w w4 := hB3.grown hg4 hB3.size (fun k e => by cases e; exact g3)
  clear hW3 hg4 hB3
  go_wp2_with fail
  have c4 : Calls Tryd.prog 37 #[.pointer (some ⟨p, 0, none⟩), .int .i64 1, .int .i64 0] w4 _ := take_in hW4 (i := 1) (j := 0) (by decide) (by decide) (by decide) (by decide)
  refine c4.mono ?_
  rintro e w5 ⟨rfl, hW5, hg5⟩
  clear c4
  have hB5 : Below w.heap.size w w5 := hB4.grown hg5 hB4.size (fun k e => by cases e; exact g2)
  clear hW4 hg5 hB4
  go_wp2_with fail
  have c5 : Calls Tryd.prog 29 #[.pointer (some ⟨p, 0, none⟩), .int .i64 1] w5 _ := step_ok hW5 (i := 1) (d := d11) (by decide) (by decide) tk_2
  refine c5.mono ?_
  rintro e w6 ⟨rfl, hW6, hg6⟩
  clear c5
  have hB6 : Below w.heap.size w w6 := hB5.grown hg6 hB5.size (fun k e => by cases e; exact g2)
  clear hW5 hg6 hB5 hW6
  have hB7 := hB6.alloc hB6.size (.cells (cl k11) 23)
  have hk7 := Blk.new w6 23 k11
  rw [d11_cl]
  go_wp2_with fail
  change Calls _ _ _ (w6.alloc (.cells (cl k11) 23)) _
  obtain ⟨s7, hs7⟩ : ∃ s7, w6.heap.size = s7 := ⟨_, rfl⟩
  rw [hs7] at hk7 ⊢
  clear hs7 hB6
  generalize w6.alloc (.cells (cl k11) 23) = W7 at *
  have x0 : W7.cell? ⟨s7, 0, none⟩ = some (.int .i64 1) := hk7.cell (k := 0) (by decide)
  have x1 : W7.cell? ⟨s7, 1, none⟩ = some (.int .i64 1) := hk7.cell (k := 1) (by decide)
  have x2 : W7.cell? ⟨s7, 2, none⟩ = some (.int .i64 0) := hk7.cell (k := 2) (by decide)
  have x3 : W7.cell? ⟨s7, 3, none⟩ = some (.int .i64 0) := hk7.cell (k := 3) (by decide)
  have x4 : W7.cell? ⟨s7, 4, none⟩ = some (.int .i64 0) := hk7.cell (k := 4) (by decide)
  have x5 : W7.cell? ⟨s7, 5, none⟩ = some (.int .i64 0) := hk7.cell (k := 5) (by decide)
  have x6 : W7.cell? ⟨s7, 6, none⟩ = some (.int .i64 0) := hk7.cell (k := 6) (by decide)
  have x7 : W7.cell? ⟨s7, 7, none⟩ = some (.int .i64 0) := hk7.cell (k := 7) (by decide)
  refine (num_any _ _).mono ?_
  rintro e w' ⟨rfl, rfl⟩
  go_wp2_with (go_at_call 14; refine (num_any _ _).mono ?_; rintro e w' ⟨rfl, rfl⟩)
  have hz7 : 0 < W7.heap.size := by have := hB7.size; omega
  have c6 : Calls Tryd.prog 16 #[.agg #[.int .i64 1, .int .i64 1, .int .i64 0, .int .i64 0, .int .i64 0, .int .i64 0, .int .i64 0, .int .i64 0]] W7 fun e w' => e = .returned (.string ⟨#[49, 32, 49]⟩) ∧ Below W7.heap.size W7 w' := by
    have := text_any k11 k11_fit W7 (ht.below hB7 h0) hz7
    rw [k11_txt] at this
    exact this
  refine c6.mono ?_
  rintro e w8 ⟨rfl, hb8⟩
  clear c6
  have hk8 := hk7.below hb8 hk7.lt
  have hB8 : Below w.heap.size w w8 := hB7.trans (hb8.mono hB7.size)
  clear hb8 x0 x1 x2 x3 x4 x5 x6 x7 hk7 hB7 hz7
  go_wp2_with fail
  have c7 : Calls Tryd.prog 23 #[.agg #[.int .i64 1, .int .i64 0, .int .i64 0, .int .i64 0, .int .i64 0, .int .i64 0, .int .i64 0, .int .i64 0], .agg #[.int .i64 0, .int .i64 1, .int .i64 0, .int .i64 0, .int .i64 0, .int .i64 0, .int .i64 0, .int .i64 0]] w8 fun e w' => e = .returned (.bool true) ∧ Below w8.heap.size w8 w' := Apart_any k1 k01 w8
  refine c7.mono ?_
  rintro e w9 ⟨rfl, hb9⟩
  clear c7
  have hk9 := hk8.below hb9 hk8.lt
  have hB9 : Below w.heap.size w w9 := hB8.trans (hb9.mono hB8.size)
  clear hb9 hk8 hB8
  have y0 : w9.cell? ⟨s7, 0, none⟩ = some (.int .i64 1) := hk9.cell (k := 0) (by decide)
  have y1 : w9.cell? ⟨s7, 1, none⟩ = some (.int .i64 1) := hk9.cell (k := 1) (by decide)
  have y2 : w9.cell? ⟨s7, 2, none⟩ = some (.int .i64 0) := hk9.cell (k := 2) (by decide)
  have y3 : w9.cell? ⟨s7, 3, none⟩ = some (.int .i64 0) := hk9.cell (k := 3) (by decide)
  have y4 : w9.cell? ⟨s7, 4, none⟩ = some (.int .i64 0) := hk9.cell (k := 4) (by decide)
  have y5 : w9.cell? ⟨s7, 5, none⟩ = some (.int .i64 0) := hk9.cell (k := 5) (by decide)
  have y6 : w9.cell? ⟨s7, 6, none⟩ = some (.int .i64 0) := hk9.cell (k := 6) (by decide)
  have y7 : w9.cell? ⟨s7, 7, none⟩ = some (.int .i64 0) := hk9.cell (k := 7) (by decide)
  go_wp2_with fail
  have c8 : Calls Tryd.prog 22 #[.agg #[.int .i64 1, .int .i64 0, .int .i64 0, .int .i64 0, .int .i64 0, .int .i64 0, .int .i64 0, .int .i64 0], .agg #[.int .i64 1, .int .i64 1, .int .i64 0, .int .i64 0, .int .i64 0, .int .i64 0, .int .i64 0, .int .i64 0]] w9 fun e w' => e = .returned (.bool true) ∧ Below w9.heap.size w9 w' := Before_any k1 k11 w9
  refine c8.mono ?_
  rintro e w10 ⟨rfl, hb10⟩
  clear c8
  go_wp2
  go_ret
  exact ⟨rfl, hB9.trans (hb10.mono hB9.size)⟩
end Go.Proofs.YtnalpladieoegaaDoor
