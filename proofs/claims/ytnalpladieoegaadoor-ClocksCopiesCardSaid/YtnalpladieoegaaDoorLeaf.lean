/- The reference's functions on clocks: Right, Within, Join, and num: what each returns. No condition. -/
import Derived.Test.YtnalpladieoegaaDoorBase
namespace Go.Proofs.YtnalpladieoegaaDoor
open Go.RowKit Go.Shelf

theorem num_any (x : Int) (w : World) : Calls Tryd.prog 14 #[.int .i64 x] w fun e w' => e = .returned (.int .i64 x) ∧ w = w' := by
  go_enter Tryd.func14, Tryd.ntmps14
  go_wp2
  go_ret
  exact ⟨rfl, rfl⟩

set_option maxHeartbeats 400000 in
theorem right_any (c : Ck) (w : World) : Calls Tryd.prog 43 #[.agg (cl c)] w fun e w' => e = .returned (.bool (okC c)) ∧ Below w.heap.size w w' := by
  have hbox := Blk.new w 23 c
  have hB : Below w.heap.size w (w.alloc (.cells (cl c) 23)) := (Below.refl _ _).alloc (Nat.le_refl _) _
  go_enter Tryd.func43, Tryd.ntmps43
  go_wp2
  generalize w.alloc (.cells (cl c) 23) = W at *
  go_loop [3] (fun i => ∃ k : Nat, k ≤ 8 ∧ i = .int .i64 k ∧ Hid (∀ j, j < k → okI (c j) = true)) (fun i => 8 - (intOf i).toNat)
  case atStart => exact ⟨0, by omega, rfl, fun j h => absurd h (by omega)⟩
  case round =>
    obtain ⟨k, hk, rfl, hall⟩ := hrel
    by_cases hlt : k < 8
    · have hc := hbox.cell hlt
      by_cases h0 : c k < 0
      · have HF : Hid (okC c = false) := okC_no hlt (okI_neg h0)
        go_wp2
        go_ret
        exact ⟨ret_bool HF.out.symm, hB⟩
      · by_cases h1 : 4611686018427387904 < c k
        · have HF : Hid (okC c = false) := okC_no hlt (okI_big h1)
          go_wp2
          go_ret
          exact ⟨ret_bool HF.out.symm, hB⟩
        · go_wp2
          go_round
          case rel => exact ⟨k + 1, by omega, by go_num, fun j hj => by
            by_cases e : j = k
            · subst e; exact okI_yes h0 h1
            · exact hall.out j (by omega)⟩
          case measure => simp [intOf]; omega
    · have HF : Hid (okC c = true) := okC_yes fun j hj => hall.out j (by omega)
      go_wp2
      go_ret
      exact ⟨ret_bool HF.out.symm, hB⟩

set_option maxHeartbeats 400000 in
theorem rwithin_any (a b : Ck) (w : World) : Calls Tryd.prog 20 #[.agg (cl a), .agg (cl b)] w fun e w' => e = .returned (.bool (wiB a b)) ∧ Below w.heap.size w w' := by
  have hA := (Blk.new w 23 a).alloc (.cells (cl b) 23)
  have hb := Blk.new (w.alloc (.cells (cl a) 23)) 23 b
  rw [World.size_alloc] at hb
  have hB : Below w.heap.size w ((w.alloc (.cells (cl a) 23)).alloc (.cells (cl b) 23)) := ((Below.refl _ _).alloc (Nat.le_refl _) _).alloc (by simp) _
  go_enter Tryd.func20, Tryd.ntmps20
  go_wp2
  generalize (w.alloc (.cells (cl a) 23)).alloc (.cells (cl b) 23) = W at *
  go_loopw [5] (fun i wr => ∃ k : Nat, k ≤ 8 ∧ i = .int .i64 k ∧ Hid (∀ j, j < k → a j ≤ b j) ∧ Blk wr w.heap.size 23 a ∧ Blk wr (w.heap.size + 1) 23 b ∧ Below w.heap.size w wr) (fun i _ => 8 - (intOf i).toNat)
  case atStart => exact ⟨0, by omega, rfl, fun j h => absurd h (by omega), hA, hb, hB⟩
  case round =>
    obtain ⟨k, hk, rfl, hall, hA, hb, hB⟩ := hrel
    by_cases hlt : k < 8
    · have hca := hA.cell hlt
      have hcb := hb.cell hlt
      have hp0 : (0 : Int) ≤ (k : Int) := by omega
      have hp1 : (k : Int) < 8 := by omega
      by_cases h0 : b k < a k
      · have HF : Hid (wiB a b = false) := wiB_no hlt h0
        go_wp2
        go_quiet (fail)
        go_wp2
        go_ret
        exact ⟨ret_bool HF.out.symm, below_drewN hB _⟩
      · go_wp2
        go_quiet (fail)
        go_wp2
        go_roundw
        case rel => exact ⟨k + 1, by omega, by go_num, fun j hj => by
            by_cases e : j = k
            · subst e; omega
            · exact hall.out j (by omega), hA, hb, below_drewN hB _⟩
        case measure => simp [intOf]; omega
    · have HF : Hid (wiB a b = true) := wiB_yes fun j hj => hall.out j (by omega)
      go_wp2
      go_ret
      exact ⟨ret_bool HF.out.symm, hB⟩
end Go.Proofs.YtnalpladieoegaaDoor
