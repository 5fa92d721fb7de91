/- The iterator over a clock's parts: it hands each part with its number to the loop's body, in order, till the body says stop. No condition but that the clock's box lies. -/
import Derived.Test.YtnalpladieoegaaDoorBase
namespace Go.Proofs.YtnalpladieoegaaDoor
open Go.RowKit Go.Shelf
attribute [local go_sem] Oper.semAt_some

theorem idx_run (c : Ck) {k : Nat} (h : k < 8) (w : World) : (Instr.index 68 (.agg (cl c)) (.int .i64 (k : Int))).run Tryd.prog w = .ok (.int .i64 (c k)) w := by
  rcases lt8 h with rfl | rfl | rfl | rfl | rfl | rfl | rfl | rfl <;> kernel_rfl

/-- What comes in a round: a part's number and the part. -/
abbrev encP (c : Ck) (i : Fin 8) : Array Value := #[.int .i64 (i.val : Int), .int .i64 (c i.val)]
/-- What has come when k rounds are over. -/
def upto (k : Nat) : List (Fin 8) := (List.finRange 8).take k
theorem upto_succ {k : Nat} (h : k < 8) : upto (k + 1) = upto k ++ [⟨k, h⟩] := by
  rcases lt8 h with rfl | rfl | rfl | rfl | rfl | rfl | rfl | rfl <;> rfl
theorem upto_len {k : Nat} (h : k ≤ 8) : (upto k).length = k := by simp [upto, h]
theorem upto_all : upto 8 = List.finRange 8 := by decide

set_option maxRecDepth 100000 in
set_option maxHeartbeats 1000000 in
theorem parts1_in (F : Fence) (n : Nat) (h62 : F.fn 62) (hro : F.round = none) (hn : 1 ≤ n) (l Bn : Nat) (t : TypeId) (c : Ck) (J Jx : List (Fin 8) → World → Prop)
    (hY : ∀ pre x W, J pre W → pre.length < 8 → YieldAt F (n - 1) Tryd.prog l (encP c x) W fun e W' =>
      (e = .returned (.bool true) ∧ J (pre ++ [x]) W' ∧ True) ∨ (e = .returned (.bool false) ∧ Jx (pre ++ [x]) W'))
    (W : World) (hb : Blk W Bn t c) (h0 : J [] W) :
    CallsIn F n Tryd.prog 62 #[.func (.yield l) #[] #[], .pointer (some ⟨Bn, 0, none⟩)] W fun e W' => (∃ v, e = .returned v) ∧
      ((∃ ys, ys = List.finRange 8 ∧ J ys W') ∨ (∃ pre, True ∧ Jx pre W')) := by
  have c0 := hb.cell (k := 0) (by decide)
  have c1 := hb.cell (k := 1) (by decide)
  have c2 := hb.cell (k := 2) (by decide)
  have c3 := hb.cell (k := 3) (by decide)
  have c4 := hb.cell (k := 4) (by decide)
  have c5 := hb.cell (k := 5) (by decide)
  have c6 := hb.cell (k := 6) (by decide)
  have c7 := hb.cell (k := 7) (by decide)
  refine callsIn_of_wp Tryd.func62 rfl h62 ?_ hro
  simp only [Tryd.ntmps62, List.size_toArray, List.length_cons, List.length_nil, Nat.reduceAdd, Nat.reduceSub, Array.replicate_succ, Array.replicate_zero, List.push_toArray, List.append_toArray, List.nil_append, List.cons_append]
  gi_wp2
  clear c0 c1 c2 c3 c4 c5 c6 c7
  gi_loopw [6] (fun i wr => ∃ k : Nat, k ≤ 8 ∧ i = .int .i64 k ∧ J (upto k) wr)
    (fun i _ => 8 - (intOf i).toNat)
  case atStart => exact ⟨0, Nat.zero_le _, rfl, h0⟩
  case round =>
    obtain ⟨k, hk, rfl, hJs⟩ := hrel
    by_cases hlt : k < 8
    · obtain ⟨fn, tmps, assign, body, hy, hR⟩ := hY _ ⟨k, hlt⟩ wr hJs (by rw [upto_len hk]; exact hlt)
      dsimp only [encP] at hy
      have hidx := idx_run c hlt
      gi_wp2
      refine hR.mono ?_
      rintro e W3 (⟨rfl, hJ3, _⟩ | ⟨rfl, hJx3⟩)
      · gi_wp2
        go_roundw
        case rel => exact ⟨k + 1, by omega, by simp, by rw [upto_succ hlt]; exact hJ3⟩
        case measure => simp [intOf]; omega
      · gi_wp2
        refine bodyPost_ret (results_none rfl _ _ _) rfl ?_
        exact ⟨⟨_, rfl⟩, .inr ⟨_, trivial, hJx3⟩⟩
    · obtain rfl : k = 8 := by omega
      gi_wp2
      go_end0
      exact ⟨⟨_, rfl⟩, .inl ⟨_, upto_all, hJs⟩⟩

/-- Nothing is asked of the body. -/
abbrev noKeep : World → World → Prop := fun _ _ => True

theorem parts_stops (F : Fence) (n : Nat) (h62 : F.fn 62) (hro : F.round = none) (hn : 1 ≤ n) (Bn : Nat) (t : TypeId) (c : Ck) (w : World) (hb : Blk w Bn t c) :
    SeqStopsK F n Tryd.prog 62 #[.pointer (some ⟨Bn, 0, none⟩)] (encP c) noKeep (fun ys => ys = List.finRange 8) (fun _ => True) 8 w := fun l J Jx W hW _ _ hY h0 =>
  parts1_in F n h62 hro hn l Bn t c J Jx hY W (hb.below hW hb.lt) h0

set_option maxHeartbeats 400000 in
theorem parts_in (F : Fence) (n : Nat) (h44 : F.fn 44) (hro : F.round = none) (c : Ck) (w : World) :
    CallsIn F n Tryd.prog 44 #[.agg (cl c)] w fun e w' => e = .returned (.func (.func 62) #[] #[.pointer (some ⟨w.heap.size, 0, none⟩)]) ∧ w' = w.alloc (.cells (cl c) 68) := by
  refine callsIn_of_wp Tryd.func44 rfl h44 ?_ hro
  simp only [Tryd.ntmps44, List.size_toArray, List.length_cons, List.length_nil, Nat.reduceAdd, Nat.reduceSub, Array.replicate_succ, Array.replicate_zero, List.push_toArray, List.append_toArray, List.nil_append, List.cons_append]
  gi_wp2
  go_ret
  exact ⟨rfl, rfl⟩
end Go.Proofs.YtnalpladieoegaaDoor
