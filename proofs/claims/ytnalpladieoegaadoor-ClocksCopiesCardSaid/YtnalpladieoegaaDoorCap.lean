/- A watch whose lists may have room behind them, as a copy's do: its Thread and Place, how it is told; Clone, Copy. Asked: the watch lies there. -/
import Derived.Test.YtnalpladieoegaaDoorIs
import Derived.Test.YtnalpladieoegaaDoorRound2
namespace Go.Proofs.YtnalpladieoegaaDoor
open Go.RowKit Go.Shelf

/-- As Wt, but the lists may have room behind them. -/
structure WtC (w : World) (p tb pb k1 k2 : Nat) (th pl : List Ck) : Prop where
  st : w.heap[p]? = some (.cells #[.slice (some ⟨tb, 0, none⟩) th.length k1, .slice (some ⟨pb, 0, none⟩) pl.length k2] 82 (0, 0))
  tc : PRow w tb 68 th k1
  pc : PRow w pb 68 pl k2
  m1 : k1 ≤ maxLen
  m2 : k2 ≤ maxLen
theorem Row.prow {w : World} {b : Nat} {t : TypeId} {l : List Ck} (h : Row w b t l) : PRow w b t l l.length := by
  refine ⟨(flat l).toArray, h, Nat.le_refl _, by simp [flat_length], ?_⟩
  rw [← flat_length]
  simp
theorem Wt.cap {w : World} {p tb pb : Nat} {th pl : List Ck} (h : Wt w p tb pb th pl) (h1 : th.length ≤ maxLen) (h2 : pl.length ≤ maxLen) : WtC w p tb pb th.length pl.length th pl := ⟨h.st, h.tc.prow, h.pc.prow, h1, h2⟩
theorem WtC.ptl {w : World} {p tb pb k1 k2 : Nat} {th pl : List Ck} (h : WtC w p tb pb k1 k2 th pl) : p < w.heap.size := (Array.getElem?_eq_some_iff.1 h.st).1
theorem WtC.c0 {w : World} {p tb pb k1 k2 : Nat} {th pl : List Ck} (h : WtC w p tb pb k1 k2 th pl) : w.cell? ⟨p, 0, none⟩ = some (.slice (some ⟨tb, 0, none⟩) th.length k1) := by simp [World.cell?, h.st]
theorem WtC.c1 {w : World} {p tb pb k1 k2 : Nat} {th pl : List Ck} (h : WtC w p tb pb k1 k2 th pl) : w.cell? ⟨p, 1, none⟩ = some (.slice (some ⟨pb, 0, none⟩) pl.length k2) := by simp [World.cell?, h.st]
theorem WtC.of {w w' : World} {p tb pb k1 k2 : Nat} {th pl : List Ck} (h : WtC w p tb pb k1 k2 th pl) (h1 : w'.heap[p]? = w.heap[p]?) (h2 : w'.heap[tb]? = w.heap[tb]?) (h3 : w'.heap[pb]? = w.heap[pb]?) : WtC w' p tb pb k1 k2 th pl := ⟨h1.trans h.st, h.tc.of h2, h.pc.of h3, h.m1, h.m2⟩
theorem WtC.kept {w w' : World} {p tb pb k1 k2 : Nat} {th pl : List Ck} (h : WtC w p tb pb k1 k2 th pl) (hg : w.grownBy w' none) : WtC w' p tb pb k1 k2 th pl :=
  h.of (hg.block p h.ptl (by simp)) (hg.block tb h.tc.lt (by simp)) (hg.block pb h.pc.lt (by simp))
theorem WtC.below {w w' : World} {p tb pb k1 k2 : Nat} {th pl : List Ck} (h : WtC w p tb pb k1 k2 th pl) (hb : Below w.heap.size w w') : WtC w' p tb pb k1 k2 th pl :=
  h.of (hb.block p h.ptl) (hb.block tb h.tc.lt) (hb.block pb h.pc.lt)
theorem WtC.drew {w : World} {p tb pb k1 k2 : Nat} {th pl : List Ck} (h : WtC w p tb pb k1 k2 th pl) : WtC w.drew p tb pb k1 k2 th pl := h.of rfl rfl rfl
theorem WtC.keep {w w' : World} {p tb pb k1 k2 a b : Nat} {th pl : List Ck} (h : WtC w p tb pb k1 k2 th pl) (hk : Kp w w' a b) (hp : p ≠ a ∧ p ≠ b) (h1 : tb ≠ a ∧ tb ≠ b) (h2 : pb ≠ a ∧ pb ≠ b) : WtC w' p tb pb k1 k2 th pl :=
  h.of (hk.block p h.ptl hp.1 hp.2) (hk.block tb h.tc.lt h1.1 h1.2) (hk.block pb h.pc.lt h2.1 h2.2)
theorem WtC.newSet {w w' : World} {p tb pb k1 k2 b : Nat} {th pl : List Ck} (h : WtC w p tb pb k1 k2 th pl) (hg : w.grownBy w' (some b)) (h1 : p ≠ b) (h2 : tb ≠ b) (h3 : pb ≠ b) : WtC w' p tb pb k1 k2 th pl :=
  h.of (hg.block p h.ptl (nesome h1)) (hg.block tb h.tc.lt (nesome h2)) (hg.block pb h.pc.lt (nesome h3))
/-- As Two, of such a watch. -/
structure TwoC (w : World) (p tb pb k3 k4 : Nat) (v : Value) (th pl : List Ck) : Prop where
  wt : WtC w p tb pb k3 k4 th pl
  rw : ∃ g1 k1 g2 k2, v = .agg #[.slice (some ⟨g1, 0, none⟩) th.length k1, .slice (some ⟨g2, 0, none⟩) pl.length k2] ∧ RL w g1 k1 th ∧ RL w g2 k2 pl
theorem Two.cap {w : World} {p tb pb : Nat} {v : Value} {th pl : List Ck} (h : Two w p tb pb v th pl) (h1 : th.length ≤ maxLen) (h2 : pl.length ≤ maxLen) : TwoC w p tb pb th.length pl.length v th pl := by
  obtain ⟨hW, g1, k1, g2, k2, hv, hR1, hR2, _⟩ := h
  exact ⟨hW.cap h1 h2, g1, k1, g2, k2, hv, hR1, hR2⟩
theorem TwoC.below {w w' : World} {p tb pb k3 k4 : Nat} {v : Value} {th pl : List Ck} (h : TwoC w p tb pb k3 k4 v th pl) (hb : Below w.heap.size w w') : TwoC w' p tb pb k3 k4 v th pl := by
  obtain ⟨hW, g1, k1, g2, k2, hv, hR1, hR2⟩ := h
  exact ⟨hW.below hb, g1, k1, g2, k2, hv, hR1.belowS hb, hR2.belowS hb⟩
theorem Two.below {w w' : World} {p tb pb : Nat} {v : Value} {th pl : List Ck} (h : Two w p tb pb v th pl) (hb : Below w.heap.size w w') : Two w' p tb pb v th pl := by
  obtain ⟨hW, g1, k1, g2, k2, hv, hR1, hR2, ne⟩ := h
  exact ⟨hW.below hb, g1, k1, g2, k2, hv, hR1.belowS hb, hR2.belowS hb, ne⟩

set_option maxHeartbeats 400000 in
theorem c_there {w : World} {p tb pb k1 k2 : Nat} {th pl : List Ck} (h : WtC w p tb pb k1 k2 th pl) (hn : 0 < th.length) :
    Calls Tryd.prog 54 #[.pointer (some ⟨p, 0, none⟩)] w fun e w' => e = .returned (.bool true) ∧ w = w' := by
  have hc := h.c0
  have hl : (0 : Int) < (th.length : Int) := by omega
  go_enter Tryd.func54, Tryd.ntmps54
  go_wp2
  go_ret
  exact ⟨rfl, rfl⟩


set_option maxHeartbeats 400000 in
theorem c_find (w : World) (b n cap i : Nat) (hi : i < n) (_hn : n ≤ 9223372036854775807) :
    Calls Tryd.prog 55 #[.slice (some ⟨b, 0, none⟩) n cap, .int .i64 (i : Int)] w fun e w' => e = .returned (.tuple #[.pointer (some ⟨b, i * 8, none⟩), .int .i64 0]) ∧ w = w' := by
  go_enter Tryd.func55, Tryd.ntmps55
  go_wp2
  go_ret2
  exact ⟨rfl, rfl⟩


set_option maxHeartbeats 2000000 in
theorem c_thread {w : World} {p tb pb k1 k2 : Nat} {th pl : List Ck} (hW : WtC w p tb pb k1 k2 th pl) {i : Nat} (hi : i < th.length) (hn : th.length ≤ 65536) (ht : 0 < th.length) :
    Calls Tryd.prog 34 #[.pointer (some ⟨p, 0, none⟩), .int .i64 (i : Int)] w fun e w' => e = .returned (.tuple #[.agg (cl (at_ th i)), .int .i64 0]) ∧ WtC w' p tb pb k1 k2 th pl ∧ w.grownBy w' none := by
  have hW0 := hW.kept (grown_alloc w (.cells (cl z0) 23))
  have hr := Blk.new w 23 z0
  have hg0 := grown_alloc w (.cells (cl z0) 23)
  have l1 := hW.ptl
  have l2 := hW.tc.lt
  have l3 := hW.pc.lt
  go_enter Tryd.func34, Tryd.ntmps34
  go_wp2_with fail
  change Calls _ _ _ (w.alloc (.cells (cl z0) 23)) _
  obtain ⟨W, hWW⟩ : ∃ W, w.alloc (.cells (cl z0) 23) = W := ⟨_, rfl⟩
  rw [hWW] at hW0 hr hg0 ⊢
  clear hWW
  refine (c_there hW0 ht).mono ?_
  rintro e w' ⟨rfl, rfl⟩
  have q0 := hW0.c0
  go_wp2_with fail
  refine (c_find W tb th.length k1 i hi (by omega)).mono ?_
  rintro e w' ⟨rfl, rfl⟩
  clear q0
  have x0 := hW0.tc.cell (j := 0) hi (by decide)
  rw [Nat.add_zero] at x0
  have x1 := hW0.tc.cell (j := 1) hi (by decide)
  have x2 := hW0.tc.cell (j := 2) hi (by decide)
  have x3 := hW0.tc.cell (j := 3) hi (by decide)
  have x4 := hW0.tc.cell (j := 4) hi (by decide)
  have x5 := hW0.tc.cell (j := 5) hi (by decide)
  have x6 := hW0.tc.cell (j := 6) hi (by decide)
  have x7 := hW0.tc.cell (j := 7) hi (by decide)
  have y0 := hr.cell (k := 0) (by decide)
  have y1 := hr.cell (k := 1) (by decide)
  have y2 := hr.cell (k := 2) (by decide)
  have y3 := hr.cell (k := 3) (by decide)
  have y4 := hr.cell (k := 4) (by decide)
  have y5 := hr.cell (k := 5) (by decide)
  have y6 := hr.cell (k := 6) (by decide)
  have y7 := hr.cell (k := 7) (by decide)
  have f0 := hr.frozen 0
  have f1 := hr.frozen 1
  have f2 := hr.frozen 2
  have f3 := hr.frozen 3
  have f4 := hr.frozen 4
  have f5 := hr.frozen 5
  have f6 := hr.frozen 6
  have f7 := hr.frozen 7
  go_wp2
  refine end_c23t (c := at_ th i) (v := .int .i64 0) (hr.set8 (at_ th i)) rfl rfl rfl rfl ?_
  have hG4 := st8b_grown W w.heap.size (at_ th i)
  exact ⟨rfl, hW0.newSet hG4 (by omega) (by omega) (by omega), grown_new hg0 hG4 (Nat.le_refl _)⟩


set_option maxHeartbeats 2000000 in
theorem c_place {w : World} {p tb pb k1 k2 : Nat} {th pl : List Ck} (hW : WtC w p tb pb k1 k2 th pl) {i : Nat} (hi : i < pl.length) (hn : pl.length ≤ 65536) (ht : 0 < th.length) :
    Calls Tryd.prog 35 #[.pointer (some ⟨p, 0, none⟩), .int .i64 (i : Int)] w fun e w' => e = .returned (.tuple #[.agg (cl (at_ pl i)), .int .i64 0]) ∧ WtC w' p tb pb k1 k2 th pl ∧ w.grownBy w' none := by
  have hW0 := hW.kept (grown_alloc w (.cells (cl z0) 23))
  have hr := Blk.new w 23 z0
  have hg0 := grown_alloc w (.cells (cl z0) 23)
  have l1 := hW.ptl
  have l2 := hW.tc.lt
  have l3 := hW.pc.lt
  go_enter Tryd.func35, Tryd.ntmps35
  go_wp2_with fail
  change Calls _ _ _ (w.alloc (.cells (cl z0) 23)) _
  obtain ⟨W, hWW⟩ : ∃ W, w.alloc (.cells (cl z0) 23) = W := ⟨_, rfl⟩
  rw [hWW] at hW0 hr hg0 ⊢
  clear hWW
  refine (c_there hW0 ht).mono ?_
  rintro e w' ⟨rfl, rfl⟩
  have q0 := hW0.c1
  go_wp2_with fail
  refine (c_find W pb pl.length k2 i hi (by omega)).mono ?_
  rintro e w' ⟨rfl, rfl⟩
  clear q0
  have x0 := hW0.pc.cell (j := 0) hi (by decide)
  rw [Nat.add_zero] at x0
  have x1 := hW0.pc.cell (j := 1) hi (by decide)
  have x2 := hW0.pc.cell (j := 2) hi (by decide)
  have x3 := hW0.pc.cell (j := 3) hi (by decide)
  have x4 := hW0.pc.cell (j := 4) hi (by decide)
  have x5 := hW0.pc.cell (j := 5) hi (by decide)
  have x6 := hW0.pc.cell (j := 6) hi (by decide)
  have x7 := hW0.pc.cell (j := 7) hi (by decide)
  have y0 := hr.cell (k := 0) (by decide)
  have y1 := hr.cell (k := 1) (by decide)
  have y2 := hr.cell (k := 2) (by decide)
  have y3 := hr.cell (k := 3) (by decide)
  have y4 := hr.cell (k := 4) (by decide)
  have y5 := hr.cell (k := 5) (by decide)
  have y6 := hr.cell (k := 6) (by decide)
  have y7 := hr.cell (k := 7) (by decide)
  have f0 := hr.frozen 0
  have f1 := hr.frozen 1
  have f2 := hr.frozen 2
  have f3 := hr.frozen 3
  have f4 := hr.frozen 4
  have f5 := hr.frozen 5
  have f6 := hr.frozen 6
  have f7 := hr.frozen 7
  go_wp2
  refine end_c23t (c := at_ pl i) (v := .int .i64 0) (hr.set8 (at_ pl i)) rfl rfl rfl rfl ?_
  have hG4 := st8b_grown W w.heap.size (at_ pl i)
  exact ⟨rfl, hW0.newSet hG4 (by omega) (by omega) (by omega), grown_new hg0 hG4 (Nat.le_refl _)⟩


set_option maxRecDepth 100000 in
set_option maxHeartbeats 4000000 in
theorem c_is {w : World} {p tb pb k3 k4 : Nat} {v : Value} {th pl : List Ck} (h : TwoC w p tb pb k3 k4 v th pl) (hp : 0 < th.length) (h8 : th.length ≤ 8) (hm : pl.length ≤ 65536) :
    Calls Tryd.prog 31 #[.pointer (some ⟨p, 0, none⟩), v] w fun e w' => e = .returned (.bool true) ∧ Below w.heap.size w w' := by
  have hmx : Tryd.prog.follows .mixedOrders = true := by kernel_rfl
  obtain ⟨hW, g1, k1, g2, k2, rfl, h1, h2⟩ := h
  have hB : Below w.heap.size w (w.alloc (.cells #[.slice (some ⟨g1, 0, none⟩) th.length k1, .slice (some ⟨g2, 0, none⟩) pl.length k2] 41)) := (Below.refl _ w).alloc (Nat.le_refl _) _
  have hA := Bx.new w (.slice (some ⟨g1, 0, none⟩) th.length k1) (.slice (some ⟨g2, 0, none⟩) pl.length k2)
  have hW0 := hW.below hB
  have hR1 := h1.belowS hB
  have hR2 := h2.belowS hB
  clear hW h1 h2
  go_enter Tryd.func31, Tryd.ntmps31
  go_wp2
  change Code.wp _ _ _ _ (w.alloc (.cells #[.slice (some ⟨g1, 0, none⟩) th.length k1, .slice (some ⟨g2, 0, none⟩) pl.length k2] 41))
  generalize w.alloc (.cells #[.slice (some ⟨g1, 0, none⟩) th.length k1, .slice (some ⟨g2, 0, none⟩) pl.length k2] 41) = W0 at *
  go_loopw [5] (fun i wr => ∃ m : Nat, m ≤ th.length ∧ i = .int .i64 m ∧ Below w.heap.size w wr ∧ Bx wr w.heap.size (.slice (some ⟨g1, 0, none⟩) th.length k1) (.slice (some ⟨g2, 0, none⟩) pl.length k2) ∧ WtC wr p tb pb k3 k4 th pl ∧ RL wr g1 k1 th ∧ RL wr g2 k2 pl) (fun i _ => th.length - (intOf i).toNat)
  case atStart => exact ⟨0, by omega, rfl, hB, hA, hW0, hR1, hR2⟩
  case round =>
    clear hB hA hW0 hR1 hR2
    obtain ⟨m, hk, rfl, hB, hA, hW0, hR1, hR2⟩ := hrel
    have a0 := hA.c0
    by_cases hlt : m < th.length
    · have hp0 : (0 : Int) ≤ (m : Int) := by omega
      have hp1 : (m : Int) < (th.length : Int) := by omega
      obtain ⟨c, hc⟩ : ∃ c, at_ th m = c := ⟨_, rfl⟩
      have heq := fun w => eqc_run Tryd.underlying23 c c w
      rw [show eqB c c = true by simp [eqB]] at heq
      go_wp2_with fail
      refine (c_thread hW0 hlt (by omega) hp).mono ?_
      rintro x w1 ⟨rfl, hW1, hg1⟩
      rw [hc]
      have hb1 : Below wr.heap.size wr w1 := ⟨hg1.os, hg1.tape, hg1.output, hg1.size, fun k hk => hg1.block k hk (by simp)⟩
      have hB2 := (hB.trans (hb1.mono hB.size)).alloc (hB.trans (hb1.mono hB.size)).size (.cells (cl c) 23)
      have hA2 := (hA.belowS hb1).alloc (.cells (cl c) 23)
      have hW2 := hW1.kept (grown_alloc w1 (.cells (cl c) 23))
      have hR12 := (hR1.belowS hb1).alloc (.cells (cl c) 23)
      have hR22 := (hR2.belowS hb1).alloc (.cells (cl c) 23)
      have hE2 := Blk.new w1 23 c
      clear hW1 hg1 hb1 hB hA hW0 hR1 hR2 a0
      go_wp2_with fail
      obtain ⟨s1, hs⟩ : ∃ s, w1.heap.size = s := ⟨_, rfl⟩
      rw [hs] at hE2 ⊢
      generalize w1.alloc (.cells (cl c) 23) = W2 at *
      refine wp_region_x [] (fun W1 => Blk W1 s1 23 c ∧ Bx W1 w.heap.size (.slice (some ⟨g1, 0, none⟩) th.length k1) (.slice (some ⟨g2, 0, none⟩) pl.length k2) ∧ PRow W1 g1 23 th k1) hmx ?_
      have HS : Hid (Blk W2.drew s1 23 c ∧ Bx W2.drew w.heap.size (.slice (some ⟨g1, 0, none⟩) th.length k1) (.slice (some ⟨g2, 0, none⟩) pl.length k2) ∧ PRow W2.drew g1 23 th k1) := ⟨hE2.drew, hA2.drew, hR12.2⟩
      refine wpX_take 0 (v := ?v0) rfl (by kernel_rfl) (by kernel_rfl) (by kernel_rfl) (by kernel_rfl) (fun _ _ _ h => h) HS.out (Or.inl ⟨by rfl, ?h0⟩) ?_
      case h0 =>
        intro W1 hS1
        have s1' := hS1.1.cells
        have x0 := s1' 0 (by decide)
        have x1 := s1' 1 (by decide)
        have x2 := s1' 2 (by decide)
        have x3 := s1' 3 (by decide)
        have x4 := s1' 4 (by decide)
        have x5 := s1' 5 (by decide)
        have x6 := s1' 6 (by decide)
        have x7 := s1' 7 (by decide)
        clear s1'
        clear hS1
        go_simp
        with_reducible rfl
      refine wpX_take 1 (v := ?v1) rfl (by kernel_rfl) (by kernel_rfl) (by kernel_rfl) (by kernel_rfl) (fun _ _ _ h => h) HS.out (Or.inl ⟨by rfl, ?h1⟩) ?_
      case h1 =>
        intro W1 hS1
        clear hS1
        go_simp
        with_reducible rfl
      refine wpX_take 2 (v := ?v2) rfl (by kernel_rfl) (by kernel_rfl) (by kernel_rfl) (by kernel_rfl) (fun _ _ _ h => h) HS.out (Or.inl ⟨by rfl, ?h2⟩) ?_
      case h2 =>
        intro W1 hS1
        have b0 := hS1.2.1.c0
        have b1 := hS1.2.1.c1
        clear hS1
        go_simp
        with_reducible rfl
      refine wpX_take 3 (v := ?v3) rfl (by kernel_rfl) (by kernel_rfl) (by kernel_rfl) (by kernel_rfl) (fun _ _ _ h => h) HS.out (Or.inl ⟨by rfl, ?h3⟩) ?_
      case h3 =>
        intro W1 hS1
        clear hS1
        go_simp
        with_reducible rfl
      refine wpX_take 4 (v := ?v4) rfl (by kernel_rfl) (by kernel_rfl) (by kernel_rfl) (by kernel_rfl) (fun _ _ _ h => h) HS.out (Or.inl ⟨by rfl, ?h4⟩) ?_
      case h4 =>
        intro W1 hS1
        clear hS1
        go_simp
        with_reducible rfl
      refine wpX_take 5 (v := ?v5) rfl (by kernel_rfl) (by kernel_rfl) (by kernel_rfl) (by kernel_rfl) (fun _ _ _ h => h) HS.out (Or.inl ⟨by rfl, ?h5⟩) ?_
      case h5 =>
        intro W1 hS1
        have x0 := hS1.2.2.cell (j := 0) hlt (by decide)
        have x1 := hS1.2.2.cell (j := 1) hlt (by decide)
        have x2 := hS1.2.2.cell (j := 2) hlt (by decide)
        have x3 := hS1.2.2.cell (j := 3) hlt (by decide)
        have x4 := hS1.2.2.cell (j := 4) hlt (by decide)
        have x5 := hS1.2.2.cell (j := 5) hlt (by decide)
        have x6 := hS1.2.2.cell (j := 6) hlt (by decide)
        have x7 := hS1.2.2.cell (j := 7) hlt (by decide)
        rw [hc] at x0 x1 x2 x3 x4 x5 x6 x7
        rw [Nat.add_zero] at x0
        clear hS1
        go_simp
        with_reducible rfl
      refine wpX_one 6 (by kernel_rfl) rfl (fun K hK => ?_)
      go_simp
      refine hK _ _ (fun _ => HS.out) ?_
      clear hK K
      refine wpX_one 7 (by kernel_rfl) rfl (fun K hK => ?_)
      go_simp
      refine hK _ _ (fun _ => HS.out) ?_
      clear hK K
      refine wpX_take 8 (v := ?v8) rfl (by kernel_rfl) (by kernel_rfl) (by kernel_rfl) (by kernel_rfl) (fun _ _ _ h => h) HS.out (Or.inl ⟨by rfl, ?h8⟩) ?_
      case h8 =>
        intro W1 hS1
        clear hS1
        go_simp
        with_reducible rfl
      refine wpX_one 9 (by kernel_rfl) rfl (fun K hK => ?_)
      go_simp
      refine (num_any _ _).mono ?_
      rintro x w' ⟨rfl, rfl⟩
      refine hK _ _ (fun _ => HS.out) ?_
      clear hK K
      refine wpX_one 10 (by kernel_rfl) rfl (fun K hK => ?_)
      go_simp
      refine hK _ _ (fun _ => HS.out) ?_
      clear hK K
      refine wpX_one 11 (by kernel_rfl) rfl (fun K hK => ?_)
      go_simp
      refine hK _ _ (fun _ => HS.out) ?_
      clear hK K
      refine wpX_done (by kernel_rfl) ?_ _
      go_wp2
      go_roundw
      case rel => exact ⟨m + 1, by omega, by go_num, hB2.drew, hA2.drew, hW2.drew, hR12.drew, hR22.drew⟩
      case measure => simp [intOf]; omega

    · obtain rfl : m = th.length := by omega
      go_wp2
      go_loopw [8] (fun i wr => ∃ m : Nat, m ≤ pl.length ∧ i = .int .i64 m ∧ Below w.heap.size w wr ∧ Bx wr w.heap.size (.slice (some ⟨g1, 0, none⟩) th.length k1) (.slice (some ⟨g2, 0, none⟩) pl.length k2) ∧ WtC wr p tb pb k3 k4 th pl ∧ RL wr g1 k1 th ∧ RL wr g2 k2 pl) (fun i _ => pl.length - (intOf i).toNat)
      case atStart => exact ⟨0, by omega, rfl, hB, hA, hW0, hR1, hR2⟩
      case round =>
        clear hB hA hW0 hR1 hR2
        obtain ⟨m, hk, rfl, hB, hA, hW0, hR1, hR2⟩ := hrel
        have a1 := hA.c1
        by_cases hlt : m < pl.length
        · have hp0 : (0 : Int) ≤ (m : Int) := by omega
          have hp1 : (m : Int) < (pl.length : Int) := by omega
          obtain ⟨c, hc⟩ : ∃ c, at_ pl m = c := ⟨_, rfl⟩
          have heq := fun w => eqc_run Tryd.underlying23 c c w
          rw [show eqB c c = true by simp [eqB]] at heq
          go_wp2_with fail
          refine (c_place hW0 hlt (by omega) hp).mono ?_
          rintro x w1 ⟨rfl, hW1, hg1⟩
          rw [hc]
          have hb1 : Below wr.heap.size wr w1 := ⟨hg1.os, hg1.tape, hg1.output, hg1.size, fun k hk => hg1.block k hk (by simp)⟩
          have hB2 := (hB.trans (hb1.mono hB.size)).alloc (hB.trans (hb1.mono hB.size)).size (.cells (cl c) 23)
          have hA2 := (hA.belowS hb1).alloc (.cells (cl c) 23)
          have hW2 := hW1.kept (grown_alloc w1 (.cells (cl c) 23))
          have hR12 := (hR1.belowS hb1).alloc (.cells (cl c) 23)
          have hR22 := (hR2.belowS hb1).alloc (.cells (cl c) 23)
          have hE2 := Blk.new w1 23 c
          clear hW1 hg1 hb1 hB hA hW0 hR1 hR2 a1
          go_wp2_with fail
          obtain ⟨s1, hs⟩ : ∃ s, w1.heap.size = s := ⟨_, rfl⟩
          rw [hs] at hE2 ⊢
          generalize w1.alloc (.cells (cl c) 23) = W2 at *
          refine wp_region_x [] (fun W1 => Blk W1 s1 23 c ∧ Bx W1 w.heap.size (.slice (some ⟨g1, 0, none⟩) th.length k1) (.slice (some ⟨g2, 0, none⟩) pl.length k2) ∧ PRow W1 g2 23 pl k2) hmx ?_
          have HS : Hid (Blk W2.drew s1 23 c ∧ Bx W2.drew w.heap.size (.slice (some ⟨g1, 0, none⟩) th.length k1) (.slice (some ⟨g2, 0, none⟩) pl.length k2) ∧ PRow W2.drew g2 23 pl k2) := ⟨hE2.drew, hA2.drew, hR22.2⟩
          refine wpX_take 0 (v := ?u0) rfl (by kernel_rfl) (by kernel_rfl) (by kernel_rfl) (by kernel_rfl) (fun _ _ _ h => h) HS.out (Or.inl ⟨by rfl, ?q0⟩) ?_
          case q0 =>
            intro W1 hS1
            have s1' := hS1.1.cells
            have x0 := s1' 0 (by decide)
            have x1 := s1' 1 (by decide)
            have x2 := s1' 2 (by decide)
            have x3 := s1' 3 (by decide)
            have x4 := s1' 4 (by decide)
            have x5 := s1' 5 (by decide)
            have x6 := s1' 6 (by decide)
            have x7 := s1' 7 (by decide)
            clear s1'
            clear hS1
            go_simp
            with_reducible rfl
          refine wpX_take 1 (v := ?u1) rfl (by kernel_rfl) (by kernel_rfl) (by kernel_rfl) (by kernel_rfl) (fun _ _ _ h => h) HS.out (Or.inl ⟨by rfl, ?q1⟩) ?_
          case q1 =>
            intro W1 hS1
            clear hS1
            go_simp
            with_reducible rfl
          refine wpX_take 2 (v := ?u2) rfl (by kernel_rfl) (by kernel_rfl) (by kernel_rfl) (by kernel_rfl) (fun _ _ _ h => h) HS.out (Or.inl ⟨by rfl, ?q2⟩) ?_
          case q2 =>
            intro W1 hS1
            have b0 := hS1.2.1.c0
            have b1 := hS1.2.1.c1
            clear hS1
            go_simp
            with_reducible rfl
          refine wpX_take 3 (v := ?u3) rfl (by kernel_rfl) (by kernel_rfl) (by kernel_rfl) (by kernel_rfl) (fun _ _ _ h => h) HS.out (Or.inl ⟨by rfl, ?q3⟩) ?_
          case q3 =>
            intro W1 hS1
            clear hS1
            go_simp
            with_reducible rfl
          refine wpX_take 4 (v := ?u4) rfl (by kernel_rfl) (by kernel_rfl) (by kernel_rfl) (by kernel_rfl) (fun _ _ _ h => h) HS.out (Or.inl ⟨by rfl, ?q4⟩) ?_
          case q4 =>
            intro W1 hS1
            clear hS1
            go_simp
            with_reducible rfl
          refine wpX_take 5 (v := ?u5) rfl (by kernel_rfl) (by kernel_rfl) (by kernel_rfl) (by kernel_rfl) (fun _ _ _ h => h) HS.out (Or.inl ⟨by rfl, ?q5⟩) ?_
          case q5 =>
            intro W1 hS1
            have x0 := hS1.2.2.cell (j := 0) hlt (by decide)
            have x1 := hS1.2.2.cell (j := 1) hlt (by decide)
            have x2 := hS1.2.2.cell (j := 2) hlt (by decide)
            have x3 := hS1.2.2.cell (j := 3) hlt (by decide)
            have x4 := hS1.2.2.cell (j := 4) hlt (by decide)
            have x5 := hS1.2.2.cell (j := 5) hlt (by decide)
            have x6 := hS1.2.2.cell (j := 6) hlt (by decide)
            have x7 := hS1.2.2.cell (j := 7) hlt (by decide)
            rw [hc] at x0 x1 x2 x3 x4 x5 x6 x7
            rw [Nat.add_zero] at x0
            clear hS1
            go_simp
            with_reducible rfl
          refine wpX_one 6 (by kernel_rfl) rfl (fun K hK => ?_)
          go_simp
          refine hK _ _ (fun _ => HS.out) ?_
          clear hK K
          refine wpX_one 7 (by kernel_rfl) rfl (fun K hK => ?_)
          go_simp
          refine hK _ _ (fun _ => HS.out) ?_
          clear hK K
          refine wpX_take 8 (v := ?u8) rfl (by kernel_rfl) (by kernel_rfl) (by kernel_rfl) (by kernel_rfl) (fun _ _ _ h => h) HS.out (Or.inl ⟨by rfl, ?q8⟩) ?_
          case q8 =>
            intro W1 hS1
            clear hS1
            go_simp
            with_reducible rfl
          refine wpX_one 9 (by kernel_rfl) rfl (fun K hK => ?_)
          go_simp
          refine (num_any _ _).mono ?_
          rintro x w' ⟨rfl, rfl⟩
          refine hK _ _ (fun _ => HS.out) ?_
          clear hK K
          refine wpX_one 10 (by kernel_rfl) rfl (fun K hK => ?_)
          go_simp
          refine hK _ _ (fun _ => HS.out) ?_
          clear hK K
          refine wpX_one 11 (by kernel_rfl) rfl (fun K hK => ?_)
          go_simp
          refine hK _ _ (fun _ => HS.out) ?_
          clear hK K
          refine wpX_done (by kernel_rfl) ?_ _
          go_wp2
          go_roundw
          case rel => exact ⟨m + 1, by omega, by go_num, hB2.drew, hA2.drew, hW2.drew, hR12.drew, hR22.drew⟩
          case measure => simp [intOf]; omega

        · obtain rfl : m = pl.length := by omega
          go_wp2
          go_ret
          exact ⟨rfl, hB⟩


end Go.Proofs.YtnalpladieoegaaDoor
