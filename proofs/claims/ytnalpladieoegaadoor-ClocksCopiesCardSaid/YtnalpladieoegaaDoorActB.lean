/- A call by both: they tell the same, and go on in step. Asked: the watch and the document's lists lie there, apart. -/
import Derived.Test.YtnalpladieoegaaDoorActA
import Derived.Test.YtnalpladieoegaaDoorLawA
import Derived.Test.YtnalpladieoegaaDoorLeaf
namespace Go.Proofs.YtnalpladieoegaaDoor
open Go.RowKit Go.Shelf

/-- Block b holds a call's three numbers. -/
def Tx (w : World) (b : Nat) (a t n : Int) : Prop := w.heap[b]? = some (.cells #[.int .i64 a, .int .i64 t, .int .i64 n] 46 (0, 0))
theorem Tx.lt {w : World} {b : Nat} {a t n : Int} (h : Tx w b a t n) : b < w.heap.size := (Array.getElem?_eq_some_iff.1 h).1
theorem Tx.c0 {w : World} {b : Nat} {a t n : Int} (h : Tx w b a t n) : w.cell? ⟨b, 0, none⟩ = some (.int .i64 a) := by
  unfold Tx at h
  simp [World.cell?, h]
theorem Tx.c1 {w : World} {b : Nat} {a t n : Int} (h : Tx w b a t n) : w.cell? ⟨b, 1, none⟩ = some (.int .i64 t) := by
  unfold Tx at h
  simp [World.cell?, h]
theorem Tx.c2 {w : World} {b : Nat} {a t n : Int} (h : Tx w b a t n) : w.cell? ⟨b, 2, none⟩ = some (.int .i64 n) := by
  unfold Tx at h
  simp [World.cell?, h]
theorem Tx.of {w w' : World} {b : Nat} {a t n : Int} (h : Tx w b a t n) (he : w'.heap[b]? = w.heap[b]?) : Tx w' b a t n := he.trans h
theorem Tx.alloc {w : World} {b : Nat} {a t n : Int} (h : Tx w b a t n) (o : Obj) : Tx (w.alloc o) b a t n := h.of ((World.grownBy_alloc w o none).block b h.lt (by simp))
theorem Tx.belowS {w w' : World} {b : Nat} {a t n : Int} (h : Tx w b a t n) (hb : Below w.heap.size w w') : Tx w' b a t n := h.of (hb.block b h.lt)
theorem Bx.keep {w w' : World} {x y b : Nat} {s1 s2 : Value} (h : Bx w b s1 s2) (hk : Kp w w' x y) (h1 : b ≠ x) (h2 : b ≠ y) : Bx w' b s1 s2 := h.of (hk.block b h.lt h1 h2)
theorem Blk.keep {w w' : World} {x y b : Nat} {t : TypeId} {c : Ck} (h : Blk w b t c) (hk : Kp w w' x y) (h1 : b ≠ x) (h2 : b ≠ y) : Blk w' b t c := (hk.block b h.lt h1 h2).trans h
theorem RL.fit {w w1 : World} {a g cap : Nat} {l : List Ck} (h : RL w1 a cap l) (_hq : a = g ∨ w.heap.size ≤ a) : a < w1.heap.size := h.lt

theorem Wt.drew {w : World} {p tb pb : Nat} {th pl : List Ck} (h : Wt w p tb pb th pl) : Wt w.drew p tb pb th pl := ⟨h.st, h.tc, h.pc, h.npt, h.npp, h.ntp⟩
theorem Kp.drew {w w' : World} {a b : Nat} (h : Kp w w' a b) : Kp w w'.drew a b := ⟨h.os, h.tape, h.output, h.size, h.block⟩
/-- A new block is written. -/
theorem Kp.new {w w1 w' : World} {a b r : Nat} (h : Kp w w1 a b) (hg : w1.grownBy w' (some r)) (hr : w.heap.size ≤ r) : Kp w w' a b :=
  ⟨hg.os.trans h.os, hg.tape.trans h.tape, hg.output.trans h.output, Nat.le_trans h.size hg.size, fun k hk h1 h2 => (hg.block k (Nat.lt_of_lt_of_le hk h.size) (nesome (by omega))).trans (h.block k hk h1 h2)⟩
abbrev actW (w : World) (S1 S2 : Value) (a t n : Int) : World := ((w.alloc (.cells #[S1, S2] 41)).alloc (.cells #[.int .i64 a, .int .i64 t, .int .i64 n] 46)).alloc (.cells #[sn, sn] 41)
theorem actW_below (w : World) (S1 S2 : Value) (a t n : Int) : Below w.heap.size w (actW w S1 S2 a t n) := (((Below.refl _ w).alloc (Nat.le_refl _) _).alloc (by simp) _).alloc (by simp; omega) _
theorem actW_a (w : World) (S1 S2 : Value) (a t n : Int) : Bx (actW w S1 S2 a t n) w.heap.size S1 S2 := ((Bx.new w S1 S2).alloc _).alloc _
theorem actW_x (w : World) (S1 S2 : Value) (a t n : Int) : Tx (actW w S1 S2 a t n) (w.heap.size + 1) a t n := by
  have h0 : Tx ((w.alloc (.cells #[S1, S2] 41)).alloc (.cells #[.int .i64 a, .int .i64 t, .int .i64 n] 46)) (w.alloc (.cells #[S1, S2] 41)).heap.size a t n := World.alloc_heap_new _ _
  rw [World.size_alloc] at h0
  exact h0.alloc _
theorem actW_d (w : World) (S1 S2 : Value) (a t n : Int) : Bx (actW w S1 S2 a t n) (w.heap.size + 1 + 1) sn sn := by
  have := Bx.new ((w.alloc (.cells #[S1, S2] 41)).alloc (.cells #[.int .i64 a, .int .i64 t, .int .i64 n] 46)) sn sn
  simp only [World.size_alloc] at this
  exact this
/-- What act leaves. -/
def ActPost (w : World) (p tb pb g1 g2 : Nat) (th' pl' : List Ck) (x : Ending) (w' : World) : Prop :=
  ∃ v, x = .returned (.tuple #[v, .bool true]) ∧ RQ w w' v g1 g2 th' pl' ∧ Wt w' p tb pb th' pl' ∧ Kp w w' tb pb

set_option maxRecDepth 100000 in
set_option maxHeartbeats 4000000 in
theorem act_stepA {w : World} {p tb pb g1 k1 g2 k2 : Nat} {th pl th' : List Ck} {a t n e : Int} {c : Ck} (hW : Wt w p tb pb th pl) (h1 : RL w g1 k1 th) (h2 : RL w g2 k2 pl) (n1 : g1 ≠ tb) (n2 : g1 ≠ pb) (n3 : g2 ≠ tb) (n4 : g2 ≠ pb) (hp : 0 < th.length) (h8 : th.length ≤ 8) (_hm : pl.length ≤ 65536) (hS : St t th th' c e) (h0 : a < 0) :
    Calls Tryd.prog 30 #[.pointer (some ⟨p, 0, none⟩), .agg #[.slice (some ⟨g1, 0, none⟩) th.length k1, .slice (some ⟨g2, 0, none⟩) pl.length k2], .agg #[.int .i64 a, .int .i64 t, .int .i64 n]] w (ActPost w p tb pb g1 g2 th' pl) := by
  have hmx : Tryd.prog.follows .mixedOrders = true := by kernel_rfl
  have heq := fun w => eqc_run Tryd.underlying23 c c w
  rw [show eqB c c = true by simp [eqB]] at heq
  have hee : (e == e) = true := by simp
  have hB := actW_below w (.slice (some ⟨g1, 0, none⟩) th.length k1) (.slice (some ⟨g2, 0, none⟩) pl.length k2) a t n
  have hA := actW_a w (.slice (some ⟨g1, 0, none⟩) th.length k1) (.slice (some ⟨g2, 0, none⟩) pl.length k2) a t n
  have hX := actW_x w (.slice (some ⟨g1, 0, none⟩) th.length k1) (.slice (some ⟨g2, 0, none⟩) pl.length k2) a t n
  have hD := actW_d w (.slice (some ⟨g1, 0, none⟩) th.length k1) (.slice (some ⟨g2, 0, none⟩) pl.length k2) a t n
  have hW0 := hW.below hB
  have hR1 := h1.belowS hB
  have hR2 := h2.belowS hB
  have l1 := hW.ptl
  have l2 := hW.tc.lt
  have l3 := hW.pc.lt
  go_enter Tryd.func30, Tryd.ntmps30
  go_wp2_with fail
  change Calls _ _ _ (actW w (.slice (some ⟨g1, 0, none⟩) th.length k1) (.slice (some ⟨g2, 0, none⟩) pl.length k2) a t n) _
  generalize actW w (.slice (some ⟨g1, 0, none⟩) th.length k1) (.slice (some ⟨g2, 0, none⟩) pl.length k2) a t n = W0 at *
  refine (rstep_st hR1 hR2 hS h8).mono ?_
  rintro x w1 ⟨v, rfl, ⟨a1, j1, a2, j2, rfl, hQ1, hQ2, hq1, hq2⟩, hb⟩
  have hX1 := (hX.belowS hb).alloc (.cells #[.slice (some ⟨a1, 0, none⟩) th'.length j1, .slice (some ⟨a2, 0, none⟩) pl.length j2] 41)
  have hX2 := hX1.alloc (.cells (cl c) 23)
  have c1 := hX2.c1
  have hB1 : Below w.heap.size w w1 := hB.trans (hb.mono hB.size)
  have hB2 := (hB1.alloc hB1.size (.cells #[.slice (some ⟨a1, 0, none⟩) th'.length j1, .slice (some ⟨a2, 0, none⟩) pl.length j2] 41)).alloc (by simp; have := hB1.size; omega) (.cells (cl c) 23)
  have hD2 := ((hD.belowS hb).alloc (.cells #[.slice (some ⟨a1, 0, none⟩) th'.length j1, .slice (some ⟨a2, 0, none⟩) pl.length j2] 41)).alloc (.cells (cl c) 23)
  have hW2 := ((hW0.below hb).kept (grown_alloc _ (.cells #[.slice (some ⟨a1, 0, none⟩) th'.length j1, .slice (some ⟨a2, 0, none⟩) pl.length j2] 41))).kept (grown_alloc _ (.cells (cl c) 23))
  have hE2 := (Bx.new w1 (.slice (some ⟨a1, 0, none⟩) th'.length j1) (.slice (some ⟨a2, 0, none⟩) pl.length j2)).alloc (.cells (cl c) 23)
  have hF2 := Blk.new (w1.alloc (.cells #[.slice (some ⟨a1, 0, none⟩) th'.length j1, .slice (some ⟨a2, 0, none⟩) pl.length j2] 41)) 23 c
  rw [World.size_alloc] at hF2
  have hQ12 := (hQ1.alloc (.cells #[.slice (some ⟨a1, 0, none⟩) th'.length j1, .slice (some ⟨a2, 0, none⟩) pl.length j2] 41)).alloc (.cells (cl c) 23)
  have hQ22 := (hQ2.alloc (.cells #[.slice (some ⟨a1, 0, none⟩) th'.length j1, .slice (some ⟨a2, 0, none⟩) pl.length j2] 41)).alloc (.cells (cl c) 23)
  have z0' := hB.size
  have m1 : W0.heap.size ≤ w1.heap.size := hb.size
  have m2 := hD.lt
  clear hX1 hQ1 hQ2 hb hA
  go_wp2_with fail
  change Calls _ _ _ ((w1.alloc (.cells #[.slice (some ⟨a1, 0, none⟩) th'.length j1, .slice (some ⟨a2, 0, none⟩) pl.length j2] 41)).alloc (.cells (cl c) 23)) _
  obtain ⟨s1, hs⟩ : ∃ s, w1.heap.size = s := ⟨_, rfl⟩
  rw [hs] at hE2 hF2 m1 ⊢
  generalize (w1.alloc (.cells #[.slice (some ⟨a1, 0, none⟩) th'.length j1, .slice (some ⟨a2, 0, none⟩) pl.length j2] 41)).alloc (.cells (cl c) 23) = W2 at *
  clear c1 hX hX2 hD hW0 hR1 hR2
  refine (step_st hW2 hS hp h8).mono ?_
  rintro x w3 ⟨rfl, hW3, hk3⟩
  have hD3 := (hD2.keep hk3 (by omega) (by omega)).alloc (.cells (cl c) 23)
  have hE3 := (hE2.keep hk3 (by omega) (by omega)).alloc (.cells (cl c) 23)
  have hF3 := (hF2.keep hk3 (by omega) (by omega)).alloc (.cells (cl c) 23)
  have hG3 := Blk.new w3 23 c
  have ne1 : a1 ≠ tb ∧ a1 ≠ pb := by
    rcases hq1 with rfl | hq1
    · exact ⟨n1, n2⟩
    · exact ⟨by omega, by omega⟩
  have ne2 : a2 ≠ tb ∧ a2 ≠ pb := by
    rcases hq2 with rfl | hq2
    · exact ⟨n3, n4⟩
    · exact ⟨by omega, by omega⟩
  have lg1 := h1.lt
  have lg2 := h2.lt
  have x1n : w.heap.size + 1 + 1 ≠ a1 := by
    rcases hq1 with h | h <;> omega
  have x2n : w.heap.size + 1 + 1 ≠ a2 := by
    rcases hq2 with h | h <;> omega
  have hQ13 := (hQ12.keep hk3 ne1.1 ne1.2).alloc (.cells (cl c) 23)
  have hQ23 := (hQ22.keep hk3 ne2.1 ne2.2).alloc (.cells (cl c) 23)
  have hK3 : Kp w (w3.alloc (.cells (cl c) 23)) tb pb := ((Kp.below (hB2 )).trans hk3).trans (Kp.none (grown_alloc w3 (.cells (cl c) 23)))
  have hW4 := hW3.kept (grown_alloc w3 (.cells (cl c) 23))
  have m3 := hD2.lt
  have m4 : W2.heap.size ≤ w3.heap.size := hk3.size
  have m5 := hE2.lt
  have m6 := hF2.lt
  clear hD2 hE2 hF2 hQ12 hQ22 hW2 hB2 hB1 hB hk3 hW3
  go_wp2_with fail
  obtain ⟨s3, hs3⟩ : ∃ s, w3.heap.size = s := ⟨_, rfl⟩
  rw [hs3] at hG3 m4 ⊢
  generalize w3.alloc (.cells (cl c) 23) = W4 at *
  refine wp_region_x [] (fun W1 => Bx W1 s1 (.slice (some ⟨a1, 0, none⟩) th'.length j1) (.slice (some ⟨a2, 0, none⟩) pl.length j2) ∧ Cells W1 (s1 + 1) c ∧ Cells W1 s3 c) hmx ?_
  have HS : Hid (Bx W4.drew s1 (.slice (some ⟨a1, 0, none⟩) th'.length j1) (.slice (some ⟨a2, 0, none⟩) pl.length j2) ∧ Cells W4.drew (s1 + 1) c ∧ Cells W4.drew s3 c) := ⟨hE3.drew, hF3.drew.cells, hG3.drew.cells⟩
  have HQ : Hid (RL W4 a1 j1 th' ∧ RL W4 a2 j2 pl ∧ Wt W4 p tb pb th' pl ∧ Kp w W4 tb pb ∧ Bx W4 (w.heap.size + 1 + 1) sn sn ∧ Bx W4 s1 (.slice (some ⟨a1, 0, none⟩) th'.length j1) (.slice (some ⟨a2, 0, none⟩) pl.length j2) ∧ Blk W4 (s1 + 1) 23 c ∧ Blk W4 s3 23 c) := ⟨hQ13, hQ23, hW4, hK3, hD3, hE3, hF3, hG3⟩
  have hq1' : a1 = g1 ∨ w.heap.size ≤ a1 := hq1.imp id (fun h => by omega)
  have hq2' : a2 = g2 ∨ w.heap.size ≤ a2 := hq2.imp id (fun h => by omega)
  have hq1n := HQ.out.1.lt
  have hq2n := HQ.out.2.1.lt
  clear hQ13 hQ23 hW4 hK3 hE3 hF3 hG3 hW h1 h2 hS hD3
  refine wpX_take 0 (v := ?v0) rfl (by kernel_rfl) (by kernel_rfl) (by kernel_rfl) (by kernel_rfl) (fun _ _ _ h => h) HS.out (Or.inl ⟨by rfl, ?h0⟩) ?_
  case h0 =>
    intro W1 hS1
    have b0 := hS1.1.c0
    have b1 := hS1.1.c1
    clear hS1
    go_simp
    with_reducible rfl
  refine wpX_take 1 (v := ?v1) rfl (by kernel_rfl) (by kernel_rfl) (by kernel_rfl) (by kernel_rfl) (fun _ _ _ h => h) HS.out (Or.inl ⟨by rfl, ?h1⟩) ?_
  case h1 =>
    intro W1 hS1
    have s1' := hS1.2.1
    have x0 := s1' 0 (by decide)
    have x1 := s1' 1 (by decide)
    have x2 := s1' 2 (by decide)
    have x3 := s1' 3 (by decide)
    have x4 := s1' 4 (by decide)
    have x5 := s1' 5 (by decide)
    have x6 := s1' 6 (by decide)
    have x7 := s1' 7 (by decide)
    clear s1'
    clear hS1
    go_simp
    with_reducible rfl
  refine wpX_take 2 (v := ?v2) rfl (by kernel_rfl) (by kernel_rfl) (by kernel_rfl) (by kernel_rfl) (fun _ _ _ h => h) HS.out (Or.inl ⟨by rfl, ?h2⟩) ?_
  case h2 =>
    intro W1 hS1
    have s1' := hS1.2.2
    have x0 := s1' 0 (by decide)
    have x1 := s1' 1 (by decide)
    have x2 := s1' 2 (by decide)
    have x3 := s1' 3 (by decide)
    have x4 := s1' 4 (by decide)
    have x5 := s1' 5 (by decide)
    have x6 := s1' 6 (by decide)
    have x7 := s1' 7 (by decide)
    clear s1'
    clear hS1
    go_simp
    with_reducible rfl
  refine wpX_one 3 (by kernel_rfl) rfl (fun K hK => ?_)
  go_simp
  refine hK _ _ (fun _ => HS.out) ?_
  clear hK K
  refine wpX_one 4 (by kernel_rfl) rfl (fun K hK => ?_)
  go_simp
  refine hK _ _ (fun _ => HS.out) ?_
  clear hK K
  refine wpX_take 5 (v := ?v5) rfl (by kernel_rfl) (by kernel_rfl) (by kernel_rfl) (by kernel_rfl) (fun _ _ _ h => h) HS.out (Or.inl ⟨by rfl, ?h5⟩) ?_
  case h5 =>
    intro W1 hS1
    clear hS1
    go_simp
    with_reducible rfl
  refine wpX_take 7 (v := ?v7) rfl (by kernel_rfl) (by kernel_rfl) (by kernel_rfl) (by kernel_rfl) (fun _ _ _ h => h) HS.out (Or.inl ⟨by rfl, ?h7⟩) ?_
  case h7 =>
    intro W1 hS1
    clear hS1
    go_simp
    with_reducible rfl
  refine wpX_one 6 (by kernel_rfl) rfl (fun K hK => ?_)
  go_simp
  refine (num_any _ _).mono ?_
  rintro x w' ⟨rfl, rfl⟩
  refine hK _ _ (fun _ => HS.out) ?_
  clear hK K
  refine wpX_take 8 (v := ?v8) rfl (by kernel_rfl) (by kernel_rfl) (by kernel_rfl) (by kernel_rfl) (fun _ _ _ h => h) HS.out (Or.inl ⟨by rfl, ?h8⟩) ?_
  case h8 =>
    intro W1 hS1
    clear hS1
    go_simp
    with_reducible rfl
  refine wpX_take 9 (v := ?v9) rfl (by kernel_rfl) (by kernel_rfl) (by kernel_rfl) (by kernel_rfl) (fun _ _ _ h => h) HS.out (Or.inl ⟨by rfl, ?h9⟩) ?_
  case h9 =>
    intro W1 hS1
    clear hS1
    go_simp
    with_reducible rfl
  refine wpX_one 10 (by kernel_rfl) rfl (fun K hK => ?_)
  have d0 := HQ.out.2.2.2.2.1.c0
  have d1 := HQ.out.2.2.2.2.1.c1
  have df0 := HQ.out.2.2.2.2.1.frozen 0
  have df1 := HQ.out.2.2.2.2.1.frozen 1
  go_simp
  have hg := set2_grown W4 (w.heap.size + 1 + 1) (.slice (some ⟨a1, 0, none⟩) th'.length j1) (.slice (some ⟨a2, 0, none⟩) pl.length j2)
  have HS2 : Hid (Bx ((W4.setCell ⟨w.heap.size + 1 + 1, 0, none⟩ (.slice (some ⟨a1, 0, none⟩) th'.length j1)).setCell ⟨w.heap.size + 1 + 1, 1, none⟩ (.slice (some ⟨a2, 0, none⟩) pl.length j2)) s1 (.slice (some ⟨a1, 0, none⟩) th'.length j1) (.slice (some ⟨a2, 0, none⟩) pl.length j2) ∧
      Cells ((W4.setCell ⟨w.heap.size + 1 + 1, 0, none⟩ (.slice (some ⟨a1, 0, none⟩) th'.length j1)).setCell ⟨w.heap.size + 1 + 1, 1, none⟩ (.slice (some ⟨a2, 0, none⟩) pl.length j2)) (s1 + 1) c ∧
      Cells ((W4.setCell ⟨w.heap.size + 1 + 1, 0, none⟩ (.slice (some ⟨a1, 0, none⟩) th'.length j1)).setCell ⟨w.heap.size + 1 + 1, 1, none⟩ (.slice (some ⟨a2, 0, none⟩) pl.length j2)) s3 c) :=
    ⟨HQ.out.2.2.2.2.2.1.kept hg (nesome (by omega)), (HQ.out.2.2.2.2.2.2.1.kept hg (nesome (by omega))).cells, (HQ.out.2.2.2.2.2.2.2.kept hg (nesome (by omega))).cells⟩
  refine hK _ _ (fun _ => HS2.out) ?_
  clear hK K d0 d1 df0 df1
  refine wpX_one 11 (by kernel_rfl) rfl (fun K hK => ?_)
  go_simp
  refine hK _ _ (fun _ => HS2.out) ?_
  clear hK K HS2 HS
  refine wpX_done (by kernel_rfl) ?_ _
  go_wp2
  have hD5 := HQ.out.2.2.2.2.1.set2 (.slice (some ⟨a1, 0, none⟩) th'.length j1) (.slice (some ⟨a2, 0, none⟩) pl.length j2)
  refine end_wt hD5.drew rfl rfl rfl rfl ?_
  exact ⟨_, rfl, ⟨a1, j1, a2, j2, rfl, (HQ.out.1.kept hg (nesome x1n.symm)).drew, (HQ.out.2.1.kept hg (nesome x2n.symm)).drew, hq1', hq2'⟩, (HQ.out.2.2.1.newSet hg (by omega) (by omega) (by omega)).drew, (HQ.out.2.2.2.1.new hg (by omega)).drew⟩

set_option maxRecDepth 100000 in
set_option maxHeartbeats 4000000 in
theorem act_stepB {w : World} {p tb pb g1 k1 g2 k2 : Nat} {th pl th' : List Ck} {a t n e : Int} {c : Ck} (hW : Wt w p tb pb th pl) (h1 : RL w g1 k1 th) (h2 : RL w g2 k2 pl) (n1 : g1 ≠ tb) (n2 : g1 ≠ pb) (n3 : g2 ≠ tb) (n4 : g2 ≠ pb) (hp : 0 < th.length) (h8 : th.length ≤ 8) (_hm : pl.length ≤ 65536) (hS : St t th th' c e) (h0 : ¬ a < 0) (h3 : 3 < a) :
    Calls Tryd.prog 30 #[.pointer (some ⟨p, 0, none⟩), .agg #[.slice (some ⟨g1, 0, none⟩) th.length k1, .slice (some ⟨g2, 0, none⟩) pl.length k2], .agg #[.int .i64 a, .int .i64 t, .int .i64 n]] w (ActPost w p tb pb g1 g2 th' pl) := by
  have hmx : Tryd.prog.follows .mixedOrders = true := by kernel_rfl
  have heq := fun w => eqc_run Tryd.underlying23 c c w
  rw [show eqB c c = true by simp [eqB]] at heq
  have hee : (e == e) = true := by simp
  have hB := actW_below w (.slice (some ⟨g1, 0, none⟩) th.length k1) (.slice (some ⟨g2, 0, none⟩) pl.length k2) a t n
  have hA := actW_a w (.slice (some ⟨g1, 0, none⟩) th.length k1) (.slice (some ⟨g2, 0, none⟩) pl.length k2) a t n
  have hX := actW_x w (.slice (some ⟨g1, 0, none⟩) th.length k1) (.slice (some ⟨g2, 0, none⟩) pl.length k2) a t n
  have hD := actW_d w (.slice (some ⟨g1, 0, none⟩) th.length k1) (.slice (some ⟨g2, 0, none⟩) pl.length k2) a t n
  have hW0 := hW.below hB
  have hR1 := h1.belowS hB
  have hR2 := h2.belowS hB
  have l1 := hW.ptl
  have l2 := hW.tc.lt
  have l3 := hW.pc.lt
  go_enter Tryd.func30, Tryd.ntmps30
  go_wp2_with fail
  change Calls _ _ _ (actW w (.slice (some ⟨g1, 0, none⟩) th.length k1) (.slice (some ⟨g2, 0, none⟩) pl.length k2) a t n) _
  generalize actW w (.slice (some ⟨g1, 0, none⟩) th.length k1) (.slice (some ⟨g2, 0, none⟩) pl.length k2) a t n = W0 at *
  refine (rstep_st hR1 hR2 hS h8).mono ?_
  rintro x w1 ⟨v, rfl, ⟨a1, j1, a2, j2, rfl, hQ1, hQ2, hq1, hq2⟩, hb⟩
  have hX1 := (hX.belowS hb).alloc (.cells #[.slice (some ⟨a1, 0, none⟩) th'.length j1, .slice (some ⟨a2, 0, none⟩) pl.length j2] 41)
  have hX2 := hX1.alloc (.cells (cl c) 23)
  have c1 := hX2.c1
  have hB1 : Below w.heap.size w w1 := hB.trans (hb.mono hB.size)
  have hB2 := (hB1.alloc hB1.size (.cells #[.slice (some ⟨a1, 0, none⟩) th'.length j1, .slice (some ⟨a2, 0, none⟩) pl.length j2] 41)).alloc (by simp; have := hB1.size; omega) (.cells (cl c) 23)
  have hD2 := ((hD.belowS hb).alloc (.cells #[.slice (some ⟨a1, 0, none⟩) th'.length j1, .slice (some ⟨a2, 0, none⟩) pl.length j2] 41)).alloc (.cells (cl c) 23)
  have hW2 := ((hW0.below hb).kept (grown_alloc _ (.cells #[.slice (some ⟨a1, 0, none⟩) th'.length j1, .slice (some ⟨a2, 0, none⟩) pl.length j2] 41))).kept (grown_alloc _ (.cells (cl c) 23))
  have hE2 := (Bx.new w1 (.slice (some ⟨a1, 0, none⟩) th'.length j1) (.slice (some ⟨a2, 0, none⟩) pl.length j2)).alloc (.cells (cl c) 23)
  have hF2 := Blk.new (w1.alloc (.cells #[.slice (some ⟨a1, 0, none⟩) th'.length j1, .slice (some ⟨a2, 0, none⟩) pl.length j2] 41)) 23 c
  rw [World.size_alloc] at hF2
  have hQ12 := (hQ1.alloc (.cells #[.slice (some ⟨a1, 0, none⟩) th'.length j1, .slice (some ⟨a2, 0, none⟩) pl.length j2] 41)).alloc (.cells (cl c) 23)
  have hQ22 := (hQ2.alloc (.cells #[.slice (some ⟨a1, 0, none⟩) th'.length j1, .slice (some ⟨a2, 0, none⟩) pl.length j2] 41)).alloc (.cells (cl c) 23)
  have z0' := hB.size
  have m1 : W0.heap.size ≤ w1.heap.size := hb.size
  have m2 := hD.lt
  clear hX1 hQ1 hQ2 hb hA
  go_wp2_with fail
  change Calls _ _ _ ((w1.alloc (.cells #[.slice (some ⟨a1, 0, none⟩) th'.length j1, .slice (some ⟨a2, 0, none⟩) pl.length j2] 41)).alloc (.cells (cl c) 23)) _
  obtain ⟨s1, hs⟩ : ∃ s, w1.heap.size = s := ⟨_, rfl⟩
  rw [hs] at hE2 hF2 m1 ⊢
  generalize (w1.alloc (.cells #[.slice (some ⟨a1, 0, none⟩) th'.length j1, .slice (some ⟨a2, 0, none⟩) pl.length j2] 41)).alloc (.cells (cl c) 23) = W2 at *
  clear c1 hX hX2 hD hW0 hR1 hR2
  refine (step_st hW2 hS hp h8).mono ?_
  rintro x w3 ⟨rfl, hW3, hk3⟩
  have hD3 := (hD2.keep hk3 (by omega) (by omega)).alloc (.cells (cl c) 23)
  have hE3 := (hE2.keep hk3 (by omega) (by omega)).alloc (.cells (cl c) 23)
  have hF3 := (hF2.keep hk3 (by omega) (by omega)).alloc (.cells (cl c) 23)
  have hG3 := Blk.new w3 23 c
  have ne1 : a1 ≠ tb ∧ a1 ≠ pb := by
    rcases hq1 with rfl | hq1
    · exact ⟨n1, n2⟩
    · exact ⟨by omega, by omega⟩
  have ne2 : a2 ≠ tb ∧ a2 ≠ pb := by
    rcases hq2 with rfl | hq2
    · exact ⟨n3, n4⟩
    · exact ⟨by omega, by omega⟩
  have lg1 := h1.lt
  have lg2 := h2.lt
  have x1n : w.heap.size + 1 + 1 ≠ a1 := by
    rcases hq1 with h | h <;> omega
  have x2n : w.heap.size + 1 + 1 ≠ a2 := by
    rcases hq2 with h | h <;> omega
  have hQ13 := (hQ12.keep hk3 ne1.1 ne1.2).alloc (.cells (cl c) 23)
  have hQ23 := (hQ22.keep hk3 ne2.1 ne2.2).alloc (.cells (cl c) 23)
  have hK3 : Kp w (w3.alloc (.cells (cl c) 23)) tb pb := ((Kp.below (hB2 )).trans hk3).trans (Kp.none (grown_alloc w3 (.cells (cl c) 23)))
  have hW4 := hW3.kept (grown_alloc w3 (.cells (cl c) 23))
  have m3 := hD2.lt
  have m4 : W2.heap.size ≤ w3.heap.size := hk3.size
  have m5 := hE2.lt
  have m6 := hF2.lt
  clear hD2 hE2 hF2 hQ12 hQ22 hW2 hB2 hB1 hB hk3 hW3
  go_wp2_with fail
  obtain ⟨s3, hs3⟩ : ∃ s, w3.heap.size = s := ⟨_, rfl⟩
  rw [hs3] at hG3 m4 ⊢
  generalize w3.alloc (.cells (cl c) 23) = W4 at *
  refine wp_region_x [] (fun W1 => Bx W1 s1 (.slice (some ⟨a1, 0, none⟩) th'.length j1) (.slice (some ⟨a2, 0, none⟩) pl.length j2) ∧ Cells W1 (s1 + 1) c ∧ Cells W1 s3 c) hmx ?_
  have HS : Hid (Bx W4.drew s1 (.slice (some ⟨a1, 0, none⟩) th'.length j1) (.slice (some ⟨a2, 0, none⟩) pl.length j2) ∧ Cells W4.drew (s1 + 1) c ∧ Cells W4.drew s3 c) := ⟨hE3.drew, hF3.drew.cells, hG3.drew.cells⟩
  have HQ : Hid (RL W4 a1 j1 th' ∧ RL W4 a2 j2 pl ∧ Wt W4 p tb pb th' pl ∧ Kp w W4 tb pb ∧ Bx W4 (w.heap.size + 1 + 1) sn sn ∧ Bx W4 s1 (.slice (some ⟨a1, 0, none⟩) th'.length j1) (.slice (some ⟨a2, 0, none⟩) pl.length j2) ∧ Blk W4 (s1 + 1) 23 c ∧ Blk W4 s3 23 c) := ⟨hQ13, hQ23, hW4, hK3, hD3, hE3, hF3, hG3⟩
  have hq1' : a1 = g1 ∨ w.heap.size ≤ a1 := hq1.imp id (fun h => by omega)
  have hq2' : a2 = g2 ∨ w.heap.size ≤ a2 := hq2.imp id (fun h => by omega)
  have hq1n := HQ.out.1.lt
  have hq2n := HQ.out.2.1.lt
  clear hQ13 hQ23 hW4 hK3 hE3 hF3 hG3 hW h1 h2 hS hD3
  refine wpX_take 0 (v := ?v0) rfl (by kernel_rfl) (by kernel_rfl) (by kernel_rfl) (by kernel_rfl) (fun _ _ _ h => h) HS.out (Or.inl ⟨by rfl, ?h0⟩) ?_
  case h0 =>
    intro W1 hS1
    have b0 := hS1.1.c0
    have b1 := hS1.1.c1
    clear hS1
    go_simp
    with_reducible rfl
  refine wpX_take 1 (v := ?v1) rfl (by kernel_rfl) (by kernel_rfl) (by kernel_rfl) (by kernel_rfl) (fun _ _ _ h => h) HS.out (Or.inl ⟨by rfl, ?h1⟩) ?_
  case h1 =>
    intro W1 hS1
    have s1' := hS1.2.1
    have x0 := s1' 0 (by decide)
    have x1 := s1' 1 (by decide)
    have x2 := s1' 2 (by decide)
    have x3 := s1' 3 (by decide)
    have x4 := s1' 4 (by decide)
    have x5 := s1' 5 (by decide)
    have x6 := s1' 6 (by decide)
    have x7 := s1' 7 (by decide)
    clear s1'
    clear hS1
    go_simp
    with_reducible rfl
  refine wpX_take 2 (v := ?v2) rfl (by kernel_rfl) (by kernel_rfl) (by kernel_rfl) (by kernel_rfl) (fun _ _ _ h => h) HS.out (Or.inl ⟨by rfl, ?h2⟩) ?_
  case h2 =>
    intro W1 hS1
    have s1' := hS1.2.2
    have x0 := s1' 0 (by decide)
    have x1 := s1' 1 (by decide)
    have x2 := s1' 2 (by decide)
    have x3 := s1' 3 (by decide)
    have x4 := s1' 4 (by decide)
    have x5 := s1' 5 (by decide)
    have x6 := s1' 6 (by decide)
    have x7 := s1' 7 (by decide)
    clear s1'
    clear hS1
    go_simp
    with_reducible rfl
  refine wpX_one 3 (by kernel_rfl) rfl (fun K hK => ?_)
  go_simp
  refine hK _ _ (fun _ => HS.out) ?_
  clear hK K
  refine wpX_one 4 (by kernel_rfl) rfl (fun K hK => ?_)
  go_simp
  refine hK _ _ (fun _ => HS.out) ?_
  clear hK K
  refine wpX_take 5 (v := ?v5) rfl (by kernel_rfl) (by kernel_rfl) (by kernel_rfl) (by kernel_rfl) (fun _ _ _ h => h) HS.out (Or.inl ⟨by rfl, ?h5⟩) ?_
  case h5 =>
    intro W1 hS1
    clear hS1
    go_simp
    with_reducible rfl
  refine wpX_take 7 (v := ?v7) rfl (by kernel_rfl) (by kernel_rfl) (by kernel_rfl) (by kernel_rfl) (fun _ _ _ h => h) HS.out (Or.inl ⟨by rfl, ?h7⟩) ?_
  case h7 =>
    intro W1 hS1
    clear hS1
    go_simp
    with_reducible rfl
  refine wpX_one 6 (by kernel_rfl) rfl (fun K hK => ?_)
  go_simp
  refine (num_any _ _).mono ?_
  rintro x w' ⟨rfl, rfl⟩
  refine hK _ _ (fun _ => HS.out) ?_
  clear hK K
  refine wpX_take 8 (v := ?v8) rfl (by kernel_rfl) (by kernel_rfl) (by kernel_rfl) (by kernel_rfl) (fun _ _ _ h => h) HS.out (Or.inl ⟨by rfl, ?h8⟩) ?_
  case h8 =>
    intro W1 hS1
    clear hS1
    go_simp
    with_reducible rfl
  refine wpX_take 9 (v := ?v9) rfl (by kernel_rfl) (by kernel_rfl) (by kernel_rfl) (by kernel_rfl) (fun _ _ _ h => h) HS.out (Or.inl ⟨by rfl, ?h9⟩) ?_
  case h9 =>
    intro W1 hS1
    clear hS1
    go_simp
    with_reducible rfl
  refine wpX_one 10 (by kernel_rfl) rfl (fun K hK => ?_)
  have d0 := HQ.out.2.2.2.2.1.c0
  have d1 := HQ.out.2.2.2.2.1.c1
  have df0 := HQ.out.2.2.2.2.1.frozen 0
  have df1 := HQ.out.2.2.2.2.1.frozen 1
  go_simp
  have hg := set2_grown W4 (w.heap.size + 1 + 1) (.slice (some ⟨a1, 0, none⟩) th'.length j1) (.slice (some ⟨a2, 0, none⟩) pl.length j2)
  have HS2 : Hid (Bx ((W4.setCell ⟨w.heap.size + 1 + 1, 0, none⟩ (.slice (some ⟨a1, 0, none⟩) th'.length j1)).setCell ⟨w.heap.size + 1 + 1, 1, none⟩ (.slice (some ⟨a2, 0, none⟩) pl.length j2)) s1 (.slice (some ⟨a1, 0, none⟩) th'.length j1) (.slice (some ⟨a2, 0, none⟩) pl.length j2) ∧
      Cells ((W4.setCell ⟨w.heap.size + 1 + 1, 0, none⟩ (.slice (some ⟨a1, 0, none⟩) th'.length j1)).setCell ⟨w.heap.size + 1 + 1, 1, none⟩ (.slice (some ⟨a2, 0, none⟩) pl.length j2)) (s1 + 1) c ∧
      Cells ((W4.setCell ⟨w.heap.size + 1 + 1, 0, none⟩ (.slice (some ⟨a1, 0, none⟩) th'.length j1)).setCell ⟨w.heap.size + 1 + 1, 1, none⟩ (.slice (some ⟨a2, 0, none⟩) pl.length j2)) s3 c) :=
    ⟨HQ.out.2.2.2.2.2.1.kept hg (nesome (by omega)), (HQ.out.2.2.2.2.2.2.1.kept hg (nesome (by omega))).cells, (HQ.out.2.2.2.2.2.2.2.kept hg (nesome (by omega))).cells⟩
  refine hK _ _ (fun _ => HS2.out) ?_
  clear hK K d0 d1 df0 df1
  refine wpX_one 11 (by kernel_rfl) rfl (fun K hK => ?_)
  go_simp
  refine hK _ _ (fun _ => HS2.out) ?_
  clear hK K HS2 HS
  refine wpX_done (by kernel_rfl) ?_ _
  go_wp2
  have hD5 := HQ.out.2.2.2.2.1.set2 (.slice (some ⟨a1, 0, none⟩) th'.length j1) (.slice (some ⟨a2, 0, none⟩) pl.length j2)
  refine end_wt hD5.drew rfl rfl rfl rfl ?_
  exact ⟨_, rfl, ⟨a1, j1, a2, j2, rfl, (HQ.out.1.kept hg (nesome x1n.symm)).drew, (HQ.out.2.1.kept hg (nesome x2n.symm)).drew, hq1', hq2'⟩, (HQ.out.2.2.1.newSet hg (by omega) (by omega) (by omega)).drew, (HQ.out.2.2.2.1.new hg (by omega)).drew⟩

end Go.Proofs.YtnalpladieoegaaDoor
