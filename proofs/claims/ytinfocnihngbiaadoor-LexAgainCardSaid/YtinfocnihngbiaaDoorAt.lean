/- The byte at a place. Asked: the place is a byte's. -/
import Derived.Test.YtinfocnihngbiaaDoorAgainP
namespace Go.Proofs.YtinfocnihngbiaaDoor
open Go.RowKit

set_option maxRecDepth 100000 in
set_option maxHeartbeats 4000000 in
theorem at_any (s : ByteArray) (k : Nat) (w : World) (hk : k < s.size) (hs : s.size ≤ 4294967296) :
    Calls Tryd.prog 16 #[.string s, .agg #[.int .i64 (posAt s k).1, .int .i64 (posAt s k).2]] w fun e w' => e = .returned (.int .i64 (k : Int)) ∧ Below w.heap.size w w' := by
  obtain ⟨x, hx⟩ : ∃ x, (posAt s k).1 = x := ⟨_, rfl⟩
  obtain ⟨y, hy⟩ : ∃ y, (posAt s k).2 = y := ⟨_, rfl⟩
  rw [hx, hy]
  have HX := Lib.hid hx
  have HY := Lib.hid hy
  have hA : Ps (w.alloc (.cells #[.int .i64 x, .int .i64 y] 25)) w.heap.size (x, y) := World.alloc_heap_new _ _
  have hB : Below w.heap.size w (w.alloc (.cells #[.int .i64 x, .int .i64 y] 25)) := (Below.refl _ w).alloc (Nat.le_refl _) _
  clear hx hy
  go_enter Tryd.func16, Tryd.ntmps16
  go_wp2_with fail
  change Code.wp _ _ _ _ (w.alloc (.cells #[.int .i64 x, .int .i64 y] 25))
  generalize w.alloc (.cells #[.int .i64 x, .int .i64 y] 25) = W0 at *
  have c0 : W0.cell? ⟨w.heap.size, 0, none⟩ = some (.int .i64 x) := hA.c0
  have c1 : W0.cell? ⟨w.heap.size, 1, none⟩ = some (.int .i64 y) := hA.c1
  clear hA
  go_loopw [5, 6, 7] (fun a b i wr => ∃ j : Nat, j ≤ k ∧ i = .int .i64 j ∧ a = .int .i64 (posAt s j).1 ∧ b = .int .i64 (posAt s j).2 ∧ W0 = wr) (fun _ _ i _ => k + 1 - (intOf i).toNat)
  case atStart => exact ⟨0, by omega, rfl, rfl, rfl, rfl⟩
  case round =>
    obtain ⟨j, hj, rfl, rfl, rfl, rfl⟩ := hrel
    have hjs : j < s.size := by omega
    have hji : (j : Int) < (s.size : Int) := by omega
    have hbt := byte_at hjs
    have hle := posAt_le s j
    obtain ⟨c, hc⟩ : ∃ c, byte s j = c := ⟨_, rfl⟩
    rw [hc] at hbt
    have hne := fun h : j < k => posAt_ne (s := s) h
    rw [HX.out, HY.out] at hne
    have hnext : posAt s (j + 1) = adv (posAt s j) c := by rw [← hc]; rfl
    obtain ⟨l, hl⟩ : ∃ l, (posAt s j).1 = l := ⟨_, rfl⟩
    obtain ⟨q, hq⟩ : ∃ q, (posAt s j).2 = q := ⟨_, rfl⟩
    have hlq : posAt s j = (l, q) := by rw [← hl, ← hq]
    rw [hlq] at hnext hle hne
    rw [hl, hq]
    by_cases hjk : j < k
    · have hn := hne hjk
      have HN := Lib.hid hnext
      clear hne hnext hl hq hlq hc
      by_cases hlx : l = x
      · have hqy : ¬ q = y := fun h => hn ⟨hlx, h⟩
        have e1 : (l == x) = true := by rw [beq_iff_eq]; exact hlx
        have e2 : (q == y) = false := by rw [beq_eq_false_iff_ne]; exact hqy
        clear hn hlx hqy
        by_cases h10 : c = 10
        · subst h10
          go_wp2
          go_roundw
          case rel => exact ⟨j + 1, by omega, by go_num, by rw [HN.out]; rfl, by rw [HN.out]; rfl, trivial⟩
          case measure => simp [intOf]; omega
        · have hne2 : ((c.toNat : Int) == 10) = false := by
            rw [beq_eq_false_iff_ne]
            intro h
            have h' : c.toNat = 10 := by omega
            exact h10 (UInt8.toNat_inj.1 (by simpa using h'))
          have HN2 : Hid (posAt s (j + 1) = (l, q + 1)) := Lib.hid (by rw [HN.out]; unfold adv; rw [if_neg h10])
          clear h10
          go_wp2
          go_roundw
          case rel => exact ⟨j + 1, by omega, by go_num, by rw [HN2.out], by rw [HN2.out], trivial⟩
          case measure => simp [intOf]; omega
      · have e1 : (l == x) = false := by rw [beq_eq_false_iff_ne]; exact hlx
        clear hn hlx
        by_cases h10 : c = 10
        · subst h10
          go_wp2
          go_roundw
          case rel => exact ⟨j + 1, by omega, by go_num, by rw [HN.out]; rfl, by rw [HN.out]; rfl, trivial⟩
          case measure => simp [intOf]; omega
        · have hne2 : ((c.toNat : Int) == 10) = false := by
            rw [beq_eq_false_iff_ne]
            intro h
            have h' : c.toNat = 10 := by omega
            exact h10 (UInt8.toNat_inj.1 (by simpa using h'))
          have HN2 : Hid (posAt s (j + 1) = (l, q + 1)) := Lib.hid (by rw [HN.out]; unfold adv; rw [if_neg h10])
          clear h10
          go_wp2
          go_roundw
          case rel => exact ⟨j + 1, by omega, by go_num, by rw [HN2.out], by rw [HN2.out], trivial⟩
          case measure => simp [intOf]; omega
    · obtain rfl : j = k := by omega
      have e1 : (l == x) = true := by rw [beq_iff_eq, ← hl]; exact HX.out
      have e2 : (q == y) = true := by rw [beq_iff_eq, ← hq]; exact HY.out
      clear hne hnext hl hq hlq hc hjk
      go_wp2
      go_ret
      exact ⟨rfl, hB⟩
end Go.Proofs.YtinfocnihngbiaaDoor
