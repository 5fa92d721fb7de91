/- A watch that stands as the document's is told to. Asked: both lie there. -/
import Derived.Test.YtnalpladieoegaaDoorActC
import Derived.Deep.Cut
namespace Go.Proofs.YtnalpladieoegaaDoor
open Go.RowKit Go.Shelf

set_option maxRecDepth 100000 in
set_option maxHeartbeats 4000000 in
theorem is_any {w : World} {p tb pb : Nat} {v : Value} {th pl : List Ck} (h : Two w p tb pb v th pl) (hp : 0 < th.length) (h8 : th.length ≤ 8) (hm : pl.length ≤ 65536) :
    Calls Tryd.prog 31 #[.pointer (some ⟨p, 0, none⟩), v] w fun e w' => e = .returned (.bool true) ∧ Below w.heap.size w w' := by
  have hmx : Tryd.prog.follows .mixedOrders = true := by kernel_rfl
  obtain ⟨hW, g1, k1, g2, k2, rfl, h1, h2, n1, n2, n3, n4⟩ := h
  have hB : Below w.heap.size w (w.alloc (.cells #[.slice (some ⟨g1, 0, none⟩) th.length k1, .slice (some ⟨g2, 0, none⟩) pl.length k2] 41)) := (Below.refl _ w).alloc (Nat.le_refl _) _
  have hA := Bx.new w (.slice (some ⟨g1, 0, none⟩) th.length k1) (.slice (some ⟨g2, 0, none⟩) pl.length k2)
  have hW0 := hW.below hB
  have hR1 := h1.belowS hB
  have hR2 := h2.belowS hB
  clear hW h1 h2
  go_enter Tryd.func31, Tryd.ntmps31
  go_wp2
  change Code.wp _ _ _ _ (w.alloc (.cells #[.slice (some ⟨g1, 0, none⟩) th.length k1, .slice (some ⟨g2, 0, none⟩) pl.length k2] 41))
  generalize w.alloc (.cells #[.slice (some ⟨g1, 0, none⟩) th.length k1, .slice (some ⟨g2, 0, none⟩) pl.length k2] 41) = W0 at *
  go_loopw [5] (fun i wr => ∃ m : Nat, m ≤ th.length ∧ i = .int .i64 m ∧ Below w.heap.size w wr ∧ Bx wr w.heap.size (.slice (some ⟨g1, 0, none⟩) th.length k1) (.slice (some ⟨g2, 0, none⟩) pl.length k2) ∧ Wt wr p tb pb th pl ∧ RL wr g1 k1 th ∧ RL wr g2 k2 pl) (fun i _ => th.length - (intOf i).toNat)
  case atStart => exact ⟨0, by omega, rfl, hB, hA, hW0, hR1, hR2⟩
  case round =>
    clear hB hA hW0 hR1 hR2
    obtain ⟨m, hk, rfl, hB, hA, hW0, hR1, hR2⟩ := hrel
    have a0 := hA.c0
    by_cases hlt : m < th.length
    · have hp0 : (0 : Int) ≤ (m : Int) := by omega
      have hp1 : (m : Int) < (th.length : Int) := by omega
      obtain ⟨c, hc⟩ : ∃ c, at_ th m = c := ⟨_, rfl⟩
      have heq := fun w => eqc_run Tryd.underlying23 c c w
      rw [show eqB c c = true by simp [eqB]] at heq
      go_wp2_with fail
      refine (thread_in hW0 hlt (by omega) hp).mono ?_
      rintro x w1 ⟨rfl, hW1, hg1⟩
      rw [hc]
      have hb1 : Below wr.heap.size wr w1 := ⟨hg1.os, hg1.tape, hg1.output, hg1.size, fun k hk => hg1.block k hk (by simp)⟩
      have hB2 := (hB.trans (hb1.mono hB.size)).alloc (hB.trans (hb1.mono hB.size)).size (.cells (cl c) 23)
      have hA2 := (hA.belowS hb1).alloc (.cells (cl c) 23)
      have hW2 := hW1.kept (grown_alloc w1 (.cells (cl c) 23))
      have hR12 := (hR1.belowS hb1).alloc (.cells (cl c) 23)
      have hR22 := (hR2.belowS hb1).alloc (.cells (cl c) 23)
      have hE2 := Blk.new w1 23 c
      clear hW1 hg1 hb1 hB hA hW0 hR1 hR2 a0
      go_wp2_with fail
      obtain ⟨s1, hs⟩ : ∃ s, w1.heap.size = s := ⟨_, rfl⟩
      rw [hs] at hE2 ⊢
      generalize w1.alloc (.cells (cl c) 23) = W2 at *
      refine wp_region_x [] (fun W1 => Blk W1 s1 23 c ∧ Bx W1 w.heap.size (.slice (some ⟨g1, 0, none⟩) th.length k1) (.slice (some ⟨g2, 0, none⟩) pl.length k2) ∧ PRow W1 g1 23 th k1) hmx ?_
      have HS : Hid (Blk W2.drew s1 23 c ∧ Bx W2.drew w.heap.size (.slice (some ⟨g1, 0, none⟩) th.length k1) (.slice (some ⟨g2, 0, none⟩) pl.length k2) ∧ PRow W2.drew g1 23 th k1) := ⟨hE2.drew, hA2.drew, hR12.2⟩
      refine wpX_take 0 (v := ?v0) rfl (by kernel_rfl) (by kernel_rfl) (by kernel_rfl) (by kernel_rfl) (fun _ _ _ h => h) HS.out (Or.inl ⟨by rfl, ?h0⟩) ?_
      case h0 =>
        intro W1 hS1
        have s1' := hS1.1.cells
        have x0 := s1' 0 (by decide)
        have x1 := s1' 1 (by decide)
        have x2 := s1' 2 (by decide)
        have x3 := s1' 3 (by decide)
        have x4 := s1' 4 (by decide)
        have x5 := s1' 5 (by decide)
        have x6 := s1' 6 (by decide)
        have x7 := s1' 7 (by decide)
        clear s1'
        clear hS1
        go_simp
        with_reducible rfl
      refine wpX_take 1 (v := ?v1) rfl (by kernel_rfl) (by kernel_rfl) (by kernel_rfl) (by kernel_rfl) (fun _ _ _ h => h) HS.out (Or.inl ⟨by rfl, ?h1⟩) ?_
      case h1 =>
        intro W1 hS1
        clear hS1
        go_simp
        with_reducible rfl
      refine wpX_take 2 (v := ?v2) rfl (by kernel_rfl) (by kernel_rfl) (by kernel_rfl) (by kernel_rfl) (fun _ _ _ h => h) HS.out (Or.inl ⟨by rfl, ?h2⟩) ?_
      case h2 =>
        intro W1 hS1
        have b0 := hS1.2.1.c0
        have b1 := hS1.2.1.c1
        clear hS1
        go_simp
        with_reducible rfl
      refine wpX_take 3 (v := ?v3) rfl (by kernel_rfl) (by kernel_rfl) (by kernel_rfl) (by kernel_rfl) (fun _ _ _ h => h) HS.out (Or.inl ⟨by rfl, ?h3⟩) ?_
      case h3 =>
        intro W1 hS1
        clear hS1
        go_simp
        with_reducible rfl
      refine wpX_take 4 (v := ?v4) rfl (by kernel_rfl) (by kernel_rfl) (by kernel_rfl) (by kernel_rfl) (fun _ _ _ h => h) HS.out (Or.inl ⟨by rfl, ?h4⟩) ?_
      case h4 =>
        intro W1 hS1
        clear hS1
        go_simp
        with_reducible rfl
      refine wpX_take 5 (v := ?v5) rfl (by kernel_rfl) (by kernel_rfl) (by kernel_rfl) (by kernel_rfl) (fun _ _ _ h => h) HS.out (Or.inl ⟨by rfl, ?h5⟩) ?_
      case h5 =>
        intro W1 hS1
        have x0 := hS1.2.2.cell (j := 0) hlt (by decide)
        have x1 := hS1.2.2.cell (j := 1) hlt (by decide)
        have x2 := hS1.2.2.cell (j := 2) hlt (by decide)
        have x3 := hS1.2.2.cell (j := 3) hlt (by decide)
        have x4 := hS1.2.2.cell (j := 4) hlt (by decide)
        have x5 := hS1.2.2.cell (j := 5) hlt (by decide)
        have x6 := hS1.2.2.cell (j := 6) hlt (by decide)
        have x7 := hS1.2.2.cell (j := 7) hlt (by decide)
        rw [hc] at x0 x1 x2 x3 x4 x5 x6 x7
        rw [Nat.add_zero] at x0
        clear hS1
        go_simp
        with_reducible rfl
      refine wpX_one 6 (by kernel_rfl) rfl (fun K hK => ?_)
      go_simp
      refine hK _ _ (fun _ => HS.out) ?_
      clear hK K
      refine wpX_one 7 (by kernel_rfl) rfl (fun K hK => ?_)
      go_simp
      refine hK _ _ (fun _ => HS.out) ?_
      clear hK K
      refine wpX_take 8 (v := ?v8) rfl (by kernel_rfl) (by kernel_rfl) (by kernel_rfl) (by kernel_rfl) (fun _ _ _ h => h) HS.out (Or.inl ⟨by rfl, ?h8⟩) ?_
      case h8 =>
        intro W1 hS1
        clear hS1
        go_simp
        with_reducible rfl
      refine wpX_one 9 (by kernel_rfl) rfl (fun K hK => ?_)
      go_simp
      refine (num_any _ _).mono ?_
      rintro x w' ⟨rfl, rfl⟩
      refine hK _ _ (fun _ => HS.out) ?_
      clear hK K
      refine wpX_one 10 (by kernel_rfl) rfl (fun K hK => ?_)
      go_simp
      refine hK _ _ (fun _ => HS.out) ?_
      clear hK K
      refine wpX_one 11 (by kernel_rfl) rfl (fun K hK => ?_)
      go_simp
      refine hK _ _ (fun _ => HS.out) ?_
      clear hK K
      refine wpX_done (by kernel_rfl) ?_ _
      go_wp2
      go_roundw
      case rel => exact ⟨m + 1, by omega, by go_num, hB2.drew, hA2.drew, hW2.drew, hR12.drew, hR22.drew⟩
      case measure => simp [intOf]; omega

    · obtain rfl : m = th.length := by omega
      go_wp2
      go_loopw [8] (fun i wr => ∃ m : Nat, m ≤ pl.length ∧ i = .int .i64 m ∧ Below w.heap.size w wr ∧ Bx wr w.heap.size (.slice (some ⟨g1, 0, none⟩) th.length k1) (.slice (some ⟨g2, 0, none⟩) pl.length k2) ∧ Wt wr p tb pb th pl ∧ RL wr g1 k1 th ∧ RL wr g2 k2 pl) (fun i _ => pl.length - (intOf i).toNat)
      case atStart => exact ⟨0, by omega, rfl, hB, hA, hW0, hR1, hR2⟩
      case round =>
        clear hB hA hW0 hR1 hR2
        obtain ⟨m, hk, rfl, hB, hA, hW0, hR1, hR2⟩ := hrel
        have a1 := hA.c1
        by_cases hlt : m < pl.length
        · have hp0 : (0 : Int) ≤ (m : Int) := by omega
          have hp1 : (m : Int) < (pl.length : Int) := by omega
          obtain ⟨c, hc⟩ : ∃ c, at_ pl m = c := ⟨_, rfl⟩
          have heq := fun w => eqc_run Tryd.underlying23 c c w
          rw [show eqB c c = true by simp [eqB]] at heq
          go_wp2_with fail
          refine (place_in hW0 hlt (by omega) hp).mono ?_
          rintro x w1 ⟨rfl, hW1, hg1⟩
          rw [hc]
          have hb1 : Below wr.heap.size wr w1 := ⟨hg1.os, hg1.tape, hg1.output, hg1.size, fun k hk => hg1.block k hk (by simp)⟩
          have hB2 := (hB.trans (hb1.mono hB.size)).alloc (hB.trans (hb1.mono hB.size)).size (.cells (cl c) 23)
          have hA2 := (hA.belowS hb1).alloc (.cells (cl c) 23)
          have hW2 := hW1.kept (grown_alloc w1 (.cells (cl c) 23))
          have hR12 := (hR1.belowS hb1).alloc (.cells (cl c) 23)
          have hR22 := (hR2.belowS hb1).alloc (.cells (cl c) 23)
          have hE2 := Blk.new w1 23 c
          clear hW1 hg1 hb1 hB hA hW0 hR1 hR2 a1
          go_wp2_with fail
          obtain ⟨s1, hs⟩ : ∃ s, w1.heap.size = s := ⟨_, rfl⟩
          rw [hs] at hE2 ⊢
          generalize w1.alloc (.cells (cl c) 23) = W2 at *
          refine wp_region_x [] (fun W1 => Blk W1 s1 23 c ∧ Bx W1 w.heap.size (.slice (some ⟨g1, 0, none⟩) th.length k1) (.slice (some ⟨g2, 0, none⟩) pl.length k2) ∧ PRow W1 g2 23 pl k2) hmx ?_
          have HS : Hid (Blk W2.drew s1 23 c ∧ Bx W2.drew w.heap.size (.slice (some ⟨g1, 0, none⟩) th.length k1) (.slice (some ⟨g2, 0, none⟩) pl.length k2) ∧ PRow W2.drew g2 23 pl k2) := ⟨hE2.drew, hA2.drew, hR22.2⟩
          refine wpX_take 0 (v := ?u0) rfl (by kernel_rfl) (by kernel_rfl) (by kernel_rfl) (by kernel_rfl) (fun _ _ _ h => h) HS.out (Or.inl ⟨by rfl, ?q0⟩) ?_
          case q0 =>
            intro W1 hS1
            have s1' := hS1.1.cells
            have x0 := s1' 0 (by decide)
            have x1 := s1' 1 (by decide)
            have x2 := s1' 2 (by decide)
            have x3 := s1' 3 (by decide)
            have x4 := s1' 4 (by decide)
            have x5 := s1' 5 (by decide)
            have x6 := s1' 6 (by decide)
            have x7 := s1' 7 (by decide)
            clear s1'
            clear hS1
            go_simp
            with_reducible rfl
          refine wpX_take 1 (v := ?u1) rfl (by kernel_rfl) (by kernel_rfl) (by kernel_rfl) (by kernel_rfl) (fun _ _ _ h => h) HS.out (Or.inl ⟨by rfl, ?q1⟩) ?_
          case q1 =>
            intro W1 hS1
            clear hS1
            go_simp
            with_reducible rfl
          refine wpX_take 2 (v := ?u2) rfl (by kernel_rfl) (by kernel_rfl) (by kernel_rfl) (by kernel_rfl) (fun _ _ _ h => h) HS.out (Or.inl ⟨by rfl, ?q2⟩) ?_
          case q2 =>
            intro W1 hS1
            have b0 := hS1.2.1.c0
            have b1 := hS1.2.1.c1
            clear hS1
            go_simp
            with_reducible rfl
          refine wpX_take 3 (v := ?u3) rfl (by kernel_rfl) (by kernel_rfl) (by kernel_rfl) (by kernel_rfl) (fun _ _ _ h => h) HS.out (Or.inl ⟨by rfl, ?q3⟩) ?_
          case q3 =>
            intro W1 hS1
            clear hS1
            go_simp
            with_reducible rfl
          refine wpX_take 4 (v := ?u4) rfl (by kernel_rfl) (by kernel_rfl) (by kernel_rfl) (by kernel_rfl) (fun _ _ _ h => h) HS.out (Or.inl ⟨by rfl, ?q4⟩) ?_
          case q4 =>
            intro W1 hS1
            clear hS1
            go_simp
            with_reducible rfl
          refine wpX_take 5 (v := ?u5) rfl (by kernel_rfl) (by kernel_rfl) (by kernel_rfl) (by kernel_rfl) (fun _ _ _ h => h) HS.out (Or.inl ⟨by rfl, ?q5⟩) ?_
          case q5 =>
            intro W1 hS1
            have x0 := hS1.2.2.cell (j := 0) hlt (by decide)
            have x1 := hS1.2.2.cell (j := 1) hlt (by decide)
            have x2 := hS1.2.2.cell (j := 2) hlt (by decide)
            have x3 := hS1.2.2.cell (j := 3) hlt (by decide)
            have x4 := hS1.2.2.cell (j := 4) hlt (by decide)
            have x5 := hS1.2.2.cell (j := 5) hlt (by decide)
            have x6 := hS1.2.2.cell (j := 6) hlt (by decide)
            have x7 := hS1.2.2.cell (j := 7) hlt (by decide)
            rw [hc] at x0 x1 x2 x3 x4 x5 x6 x7
            rw [Nat.add_zero] at x0
            clear hS1
            go_simp
            with_reducible rfl
          refine wpX_one 6 (by kernel_rfl) rfl (fun K hK => ?_)
          go_simp
          refine hK _ _ (fun _ => HS.out) ?_
          clear hK K
          refine wpX_one 7 (by kernel_rfl) rfl (fun K hK => ?_)
          go_simp
          refine hK _ _ (fun _ => HS.out) ?_
          clear hK K
          refine wpX_take 8 (v := ?u8) rfl (by kernel_rfl) (by kernel_rfl) (by kernel_rfl) (by kernel_rfl) (fun _ _ _ h => h) HS.out (Or.inl ⟨by rfl, ?q8⟩) ?_
          case q8 =>
            intro W1 hS1
            clear hS1
            go_simp
            with_reducible rfl
          refine wpX_one 9 (by kernel_rfl) rfl (fun K hK => ?_)
          go_simp
          refine (num_any _ _).mono ?_
          rintro x w' ⟨rfl, rfl⟩
          refine hK _ _ (fun _ => HS.out) ?_
          clear hK K
          refine wpX_one 10 (by kernel_rfl) rfl (fun K hK => ?_)
          go_simp
          refine hK _ _ (fun _ => HS.out) ?_
          clear hK K
          refine wpX_one 11 (by kernel_rfl) rfl (fun K hK => ?_)
          go_simp
          refine hK _ _ (fun _ => HS.out) ?_
          clear hK K
          refine wpX_done (by kernel_rfl) ?_ _
          go_wp2
          go_roundw
          case rel => exact ⟨m + 1, by omega, by go_num, hB2.drew, hA2.drew, hW2.drew, hR12.drew, hR22.drew⟩
          case measure => simp [intOf]; omega

        · obtain rfl : m = pl.length := by omega
          go_wp2
          go_ret
          exact ⟨rfl, hB⟩

end Go.Proofs.YtnalpladieoegaaDoor
