/- The document's numbers as bytes. No condition but what is said. -/
import Derived.Test.YtjbinejaagpleaaDoorRefS
namespace Go.Proofs.YtjbinejaagpleaaDoor
open Go.RowKit

set_option maxRecDepth 100000 in
set_option maxHeartbeats 8000000 in
theorem mnumber_any {w : World} (n : Nat) (hn : n < 9223372036854775808) :
    Calls Tryd.prog 30 #[.int .i64 (n : Int)] w fun e w' => Below w.heap.size w w' ∧ ∃ v, e = .returned v ∧ w'.ownsRow w.heap.size 5 1 v (numB n).length (u8s (numB n)) := by
  obtain ⟨i0, hi0, hz0, hz1, hz2⟩ := info_parts info5
  have hl10 : (numB n).length ≤ 10 := numB_len 9 n (by omega)
  obtain ⟨Z, hZ⟩ : ∃ Z, numB n = Z := ⟨_, rfl⟩
  rw [hZ] at hl10 ⊢
  have HL := Lib.hid hl10
  have HN := Lib.hid hn
  have HZ := Lib.hid hZ
  clear hn hZ hl10
  go_enter Tryd.func30, Tryd.ntmps30
  go_wp2_with fail
  go_loopw [0, 3] (fun x u wr => ∃ (m : Nat) (ys : List Nat), x = .int .i64 m ∧ m < 9223372036854775808 ∧ Hid (ys ++ numB m = Z) ∧ Hid (wr.ownsRow w.heap.size 5 1 u ys.length (u8s ys)) ∧ Hid (Below w.heap.size w wr)) (fun x _ _ => (intOf x).toNat)
  case atStart => exact ⟨n, [], rfl, HN.out, Lib.hid (by rw [List.nil_append]; exact HZ.out), Lib.hid (World.ownsRow_nil w _ 5 1), Lib.hid (Below.refl _ _)⟩
  case round =>
    obtain ⟨m, ys, rfl, hm, HY, HO, HB⟩ := hrel
    obtain ⟨ua, uc, rfl⟩ := own_form HO.out
    have hyl : ys.length + (numB m).length ≤ 10 := by
      have h1 := HY.out
      have h2 := HL.out
      rw [← h1, List.length_append] at h2
      exact h2
    by_cases hm1 : m < 128
    · have hmi : ¬ (128 : Int) ≤ (m : Int) := by omega
      have hE := numB_lt hm1
      have hyl1 : ys.length + 1 ≤ 10 := by rw [hE] at hyl; simpa using hyl
      have HE := Lib.hid hE
      have q3 : (m : Int) % 256 = (m : Int) := by omega
      have hown' := HO.out.alloc (Obj.cells #[Value.int .u8 (m : Int)] 5)
      clear hE hyl
      go_wp2_with (at_builtin; refine wpList_append_lies _ rfl (.tmp 15) (.tmp 18) 28 rfl w.heap.size 5 i0 (.int .u8 0) 1 1 Tryd.underlying28 hi0 hz0 hz1 hz2 rfl (by decide) (.slice ua ys.length uc) ys.length (u8s ys) rfl hown' ⟨wr.heap.size, 0, none⟩ 1 1 [.int .u8 (m : Int)] rfl rfl ?c2d ?c3d (by decide) ?c4d ?c5d ?c6d (wr.heap.size + 1) (by simp) ?_)
      case c3d => simp [Value.oneCell']
      case c4d => unfold maxLen; omega
      case c5d => omega
      case c6d => have := HB.out.size; simp; omega
      try (case c2d => exact one_cell _ _ _)
      intro g cap1 w1 hown1 hgrow hlies _
      have HO1 : Hid (w1.ownsRow w.heap.size 5 1 (.slice (some ⟨g, 0, none⟩) (ys.length + 1) cap1) (ys ++ [m]).length (u8s (ys ++ [m]))) := Lib.hid (by
        have e1 : (ys ++ [m]).length = ys.length + 1 := by simp
        rw [e1]
        simpa [u8s] using hown1)
      have HB1 : Hid (Below w.heap.size w w1) := Lib.hid ((HB.out.alloc HB.out.size _).grown hgrow (by have := HB.out.size; simp; omega) (own_ge HO.out (Nat.le_refl _)))
      clear hown1 hgrow hlies hown' HO HB
      go_wp2
      go_ret
      refine ⟨HB1.out, _, rfl, ?_⟩
      have ey := HY.out
      rw [HE.out] at ey
      rw [← ey]
      have e1 : (ys ++ [m]).length = ys.length + 1 := by simp
      exact HO1.out
    · have hmi : (128 : Int) ≤ (m : Int) := by omega
      have hE := numB_ge hm1
      have hyl1 : ys.length + 1 ≤ 10 := by rw [hE] at hyl; simp only [List.length_cons] at hyl; omega
      have HE := Lib.hid hE
      have q7 : (m : Int).tmod 128 = (m : Int) % 128 := Int.tmod_eq_emod_of_nonneg (by omega)
      have q8 : (m : Int).tdiv 128 = (m : Int) / 128 := Int.tdiv_eq_ediv_of_nonneg (by omega)
      have q3 : (m : Int) % 128 % 256 = (m : Int) % 128 := by omega
      have q4 : ((m : Int) % 128 + 128) % 256 = (m : Int) % 128 + 128 := by omega
      have hown' := HO.out.alloc (Obj.cells #[Value.int .u8 ((m : Int) % 128 + 128)] 5)
      clear hE hyl
      go_wp2_with (at_builtin; refine wpList_append_lies _ rfl (.tmp 6) (.tmp 11) 28 rfl w.heap.size 5 i0 (.int .u8 0) 1 1 Tryd.underlying28 hi0 hz0 hz1 hz2 rfl (by decide) (.slice ua ys.length uc) ys.length (u8s ys) rfl hown' ⟨wr.heap.size, 0, none⟩ 1 1 [.int .u8 ((m : Int) % 128 + 128)] rfl rfl ?c2e ?c3e (by decide) ?c4e ?c5e ?c6e (wr.heap.size + 1) (by simp) ?_)
      case c3e => simp [Value.oneCell']
      case c4e => unfold maxLen; omega
      case c5e => omega
      case c6e => have := HB.out.size; simp; omega
      try (case c2e => exact one_cell _ _ _)
      intro g cap1 w1 hown1 hgrow hlies _
      have HO1 : Hid (w1.ownsRow w.heap.size 5 1 (.slice (some ⟨g, 0, none⟩) (ys.length + 1) cap1) (ys ++ [m % 128 + 128]).length (u8s (ys ++ [m % 128 + 128]))) := Lib.hid (by
        have e1 : (ys ++ [m % 128 + 128]).length = ys.length + 1 := by simp
        rw [e1]
        simpa [u8s] using hown1)
      have HB1 : Hid (Below w.heap.size w w1) := Lib.hid ((HB.out.alloc HB.out.size _).grown hgrow (by have := HB.out.size; simp; omega) (own_ge HO.out (Nat.le_refl _)))
      clear hown1 hgrow hlies hown' HO HB
      go_wp2
      case roundEnd =>
        refine ⟨⟨m / 128, ys ++ [m % 128 + 128], by simp, by omega, Lib.hid ?_, HO1, HB1⟩, by simp [intOf]; omega⟩
        rw [← HY.out, HE.out, List.append_assoc]
        rfl
set_option maxRecDepth 100000 in
set_option maxHeartbeats 8000000 in
theorem msigned_any {w : World} (z : Int) (h0 : -4000000000 ≤ z) (h1 : z ≤ 4000000000) :
    Calls Tryd.prog 31 #[.int .i64 z] w fun e w' => Below w.heap.size w w' ∧ ∃ v, e = .returned v ∧ w'.ownsRow w.heap.size 5 1 v (sgnB z).length (u8s (sgnB z)) := by
  have hc := mnumber_any (w := w) (sgnN z) (by unfold sgnN; split <;> omega)
  by_cases hz : z < 0
  · have e1 : ((sgnN z : Nat) : Int) = -2 * z - 1 := by unfold sgnN; rw [if_pos hz]; omega
    rw [e1] at hc
    have q1 : IntKind.i64.wrap (-2 * z) = -2 * z := by rw [IntKind.wrap_i64]; omega
    have q2 : IntKind.i64.wrap (-2 * z - 1) = -2 * z - 1 := by rw [IntKind.wrap_i64]; omega
    go_enter Tryd.func31, Tryd.ntmps31
    go_wp2_with fail
    refine hc.mono ?_
    rintro e w1 ⟨hb, v, rfl, ho⟩
    have HO := Lib.hid ho
    have HB := Lib.hid hb
    clear hc ho hb
    go_wp2
    go_ret
    exact ⟨HB.out, _, rfl, HO.out⟩
  · have e1 : ((sgnN z : Nat) : Int) = 2 * z := by unfold sgnN; rw [if_neg hz]; omega
    rw [e1] at hc
    have q1 : IntKind.i64.wrap (2 * z) = 2 * z := by rw [IntKind.wrap_i64]; omega
    go_enter Tryd.func31, Tryd.ntmps31
    go_wp2_with fail
    refine hc.mono ?_
    rintro e w1 ⟨hb, v, rfl, ho⟩
    have HO := Lib.hid ho
    have HB := Lib.hid hb
    clear hc ho hb
    go_wp2
    go_ret
    exact ⟨HB.out, _, rfl, HO.out⟩
end Go.Proofs.YtjbinejaagpleaaDoor
