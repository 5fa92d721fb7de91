/- The document's Same, of any modules. Asked: the modules lie. -/
import Derived.Test.YtjbinejaagpleaaDoorRefC
namespace Go.Proofs.YtjbinejaagpleaaDoor
open Go.RowKit

/-- Are two modules the same? -/
def sameM (a b : ModM) : Prop := a.vars = b.vars ∧ a.arrays = b.arrays ∧ a.chans = b.chans ∧ a.mu = b.mu ∧ a.co = b.co ∧ a.threads.length = b.threads.length ∧ ∀ j, j < b.threads.length → sameC (a.threads.getD j default) (b.threads.getD j default)
instance (a b : ModM) : Decidable (sameM a b) := by unfold sameM; exact inferInstance
set_option maxRecDepth 100000 in
set_option maxHeartbeats 16000000 in
theorem rsame_gen {w : World} {va1 aa1 ca1 ta1 va2 aa2 ca2 ta2 : Option Addr} {vc1 ac1 cc1 tc1 vc2 ac2 cc2 tc2 nv na nc nt : Nat} {V1 V2 arrays chans : List Int} {mu co : Int} {T1 T2 : List CodeM}
    (hnv : V1.length = nv) (hnv2 : V2.length = nv) (hna : arrays.length = na) (hnc : chans.length = nc) (hn1 : T1.length = nt) (hn2 : T2.length = nt) (_b1 : nv ≤ 281474976710656) (b2 : na ≤ 281474976710656) (b3 : nc ≤ 281474976710656) (_b4 : nt ≤ 281474976710656)
    (hv1 : Ints w va1 V1) (hv2 : Ints w va2 V2) (ha1 : Ints w aa1 arrays) (ha2 : Ints w aa2 arrays) (hc1 : Ints w ca1 chans) (hc2 : Ints w ca2 chans) (ht1 : Cds w ta1 T1) (ht2 : Cds w ta2 T2) :
    Calls Tryd.prog 12 #[.agg #[.slice va1 nv vc1, .slice aa1 na ac1, .slice ca1 nc cc1, .int .i64 mu, .int .i64 co, .slice ta1 nt tc1], .agg #[.slice va2 nv vc2, .slice aa2 na ac2, .slice ca2 nc cc2, .int .i64 mu, .int .i64 co, .slice ta2 nt tc2]] w fun e w' => e = .returned (.bool (decide (V1 = V2 ∧ ∀ j, j < nt → sameC (T1.getD j default) (T2.getD j default)))) ∧ Below w.heap.size w w' := by
  obtain ⟨R, hR⟩ : ∃ R, decide (V1 = V2 ∧ ∀ j, j < nt → sameC (T1.getD j default) (T2.getD j default)) = R := ⟨_, rfl⟩
  rw [hR]
  have HR := Lib.hid hR
  clear hR
  have hmx : Tryd.prog.follows .mixedOrders = true := by kernel_rfl
  have hB0 : Below w.heap.size w ((w.alloc (.cells #[.slice va1 nv vc1, .slice aa1 na ac1, .slice ca1 nc cc1, .int .i64 mu, .int .i64 co, .slice ta1 nt tc1] 27)).alloc (.cells #[.slice va2 nv vc2, .slice aa2 na ac2, .slice ca2 nc cc2, .int .i64 mu, .int .i64 co, .slice ta2 nt tc2] 27)) := ((Below.refl _ w).alloc (Nat.le_refl _) _).alloc (by simp) _
  have hx : ((w.alloc (.cells #[.slice va1 nv vc1, .slice aa1 na ac1, .slice ca1 nc cc1, .int .i64 mu, .int .i64 co, .slice ta1 nt tc1] 27)).alloc (.cells #[.slice va2 nv vc2, .slice aa2 na ac2, .slice ca2 nc cc2, .int .i64 mu, .int .i64 co, .slice ta2 nt tc2] 27)).heap[w.heap.size]? = some (.cells #[.slice va1 nv vc1, .slice aa1 na ac1, .slice ca1 nc cc1, .int .i64 mu, .int .i64 co, .slice ta1 nt tc1] 27 (0, 0)) := (Below.heap_alloc _ _ w.heap.size (by simp)).trans (World.alloc_heap_new w _)
  have hy : ((w.alloc (.cells #[.slice va1 nv vc1, .slice aa1 na ac1, .slice ca1 nc cc1, .int .i64 mu, .int .i64 co, .slice ta1 nt tc1] 27)).alloc (.cells #[.slice va2 nv vc2, .slice aa2 na ac2, .slice ca2 nc cc2, .int .i64 mu, .int .i64 co, .slice ta2 nt tc2] 27)).heap[w.heap.size + 1]? = some (.cells #[.slice va2 nv vc2, .slice aa2 na ac2, .slice ca2 nc cc2, .int .i64 mu, .int .i64 co, .slice ta2 nt tc2] 27 (0, 0)) := by
    have := World.alloc_heap_new (w.alloc (.cells #[.slice va1 nv vc1, .slice aa1 na ac1, .slice ca1 nc cc1, .int .i64 mu, .int .i64 co, .slice ta1 nt tc1] 27)) (.cells #[.slice va2 nv vc2, .slice aa2 na ac2, .slice ca2 nc cc2, .int .i64 mu, .int .i64 co, .slice ta2 nt tc2] 27)
    rwa [World.size_alloc] at this
  have hra := rints_any (w := ((w.alloc (.cells #[.slice va1 nv vc1, .slice aa1 na ac1, .slice ca1 nc cc1, .int .i64 mu, .int .i64 co, .slice ta1 nt tc1] 27)).alloc (.cells #[.slice va2 nv vc2, .slice aa2 na ac2, .slice ca2 nc cc2, .int .i64 mu, .int .i64 co, .slice ta2 nt tc2] 27))) (c := ac1) (c' := ac2) hna hna b2 b2 (ha1.below hB0 (Nat.le_refl _)) (ha2.below hB0 (Nat.le_refl _))
  rw [decide_eq_true rfl] at hra
  have hrc := fun W (h : Below w.heap.size w W) => rints_any (w := W) (c := cc1) (c' := cc2) hnc hnc b3 b3 (hc1.below h (Nat.le_refl _)) (hc2.below h (Nat.le_refl _))
  simp only [decide_true] at hrc
  have HRC := Lib.hid hrc
  have HB0 := Lib.hid hB0
  have HX := Lib.hid hx
  have HY := Lib.hid hy
  have HV := Lib.hid (And.intro hv1 (And.intro hv2 (And.intro hnv hnv2)))
  have HT := Lib.hid (And.intro ht1 (And.intro ht2 (And.intro hn1 hn2)))
  have q0 : ((nv : Int) != (nv : Int)) = false := by simp
  have q1 : ((nt : Int) != (nt : Int)) = false := by simp
  have q2 : (mu != mu) = false := by simp
  have q3 : (co != co) = false := by simp
  clear hrc hB0 hx hy hv1 hv2 ht1 ht2 hn1 hn2 ha1 ha2 hc1 hc2 hnv hnv2 hna hnc
  go_enter Tryd.func12, Tryd.ntmps12
  go_wp2_with fail
  refine hra.mono ?_
  rintro e w1 ⟨rfl, hb1⟩
  have hbA : Below w.heap.size w w1 := HB0.out.trans (hb1.mono HB0.out.size)
  have hx1 := (hb1.block w.heap.size (Array.getElem?_eq_some_iff.1 HX.out).1).trans HX.out
  have hy1 := (hb1.block (w.heap.size + 1) (Array.getElem?_eq_some_iff.1 HY.out).1).trans HY.out
  have HX1 := Lib.hid hx1
  have HY1 := Lib.hid hy1
  have HBA := Lib.hid hbA
  have hrc := HRC.out w1 hbA
  have x2 := cell_blk (w := w1) (k := 2) hx1 rfl
  have y2 := cell_blk (w := w1) (k := 2) hy1 rfl
  have x3 := cell_blk (w := w1) (k := 3) hx1 rfl
  have y3 := cell_blk (w := w1) (k := 3) hy1 rfl
  have x4 := cell_blk (w := w1) (k := 4) hx1 rfl
  have y4 := cell_blk (w := w1) (k := 4) hy1 rfl
  have x5 := cell_blk (w := w1) (k := 5) hx1 rfl
  have y5 := cell_blk (w := w1) (k := 5) hy1 rfl
  clear hra hb1 hbA hx1 hy1 HX HY HB0 HRC
  go_wp2_with fail
  refine hrc.mono ?_
  rintro e w2 ⟨rfl, hb2⟩
  have HBB := Lib.hid (HBA.out.trans (hb2.mono HBA.out.size))
  have hx2 := (hb2.block w.heap.size (Array.getElem?_eq_some_iff.1 HX1.out).1).trans HX1.out
  have hy2 := (hb2.block (w.heap.size + 1) (Array.getElem?_eq_some_iff.1 HY1.out).1).trans HY1.out
  have HF : Hid (Below w.heap.size w w2 ∧ w2.heap[w.heap.size]? = some (.cells #[.slice va1 nv vc1, .slice aa1 na ac1, .slice ca1 nc cc1, .int .i64 mu, .int .i64 co, .slice ta1 nt tc1] 27 (0, 0)) ∧ w2.heap[w.heap.size + 1]? = some (.cells #[.slice va2 nv vc2, .slice aa2 na ac2, .slice ca2 nc cc2, .int .i64 mu, .int .i64 co, .slice ta2 nt tc2] 27 (0, 0))) := Lib.hid ⟨HBB.out, hx2, hy2⟩
  clear hrc hb2 HBA HBB HX1 HY1 x2 y2 x3 y3 x4 y4 x5 y5
  have x0 := cell_blk (w := w2) (k := 0) hx2 rfl
  have y0 := cell_blk (w := w2) (k := 0) hy2 rfl
  have x3 := cell_blk (w := w2) (k := 3) hx2 rfl
  have y3 := cell_blk (w := w2) (k := 3) hy2 rfl
  have x4 := cell_blk (w := w2) (k := 4) hx2 rfl
  have y4 := cell_blk (w := w2) (k := 4) hy2 rfl
  have x5 := cell_blk (w := w2) (k := 5) hx2 rfl
  have y5 := cell_blk (w := w2) (k := 5) hy2 rfl
  clear hx2 hy2
  go_wp2_with fail
  clear x0 y0 x3 y3 x4 y4 x5 y5
  go_loopw [5] (fun x wr => ∃ k : Nat, k ≤ nv ∧ x = .int .i64 k ∧ Hid (∀ j, j < k → V1.getD j 0 = V2.getD j 0) ∧ Hid (Below w.heap.size w wr ∧ wr.heap[w.heap.size]? = some (.cells #[.slice va1 nv vc1, .slice aa1 na ac1, .slice ca1 nc cc1, .int .i64 mu, .int .i64 co, .slice ta1 nt tc1] 27 (0, 0)) ∧ wr.heap[w.heap.size + 1]? = some (.cells #[.slice va2 nv vc2, .slice aa2 na ac2, .slice ca2 nc cc2, .int .i64 mu, .int .i64 co, .slice ta2 nt tc2] 27 (0, 0)))) (fun x _ => nv - (intOf x).toNat)
  case atStart => exact ⟨0, Nat.zero_le _, rfl, Lib.hid (fun j hj => by omega), HF⟩
  case round =>
    clear HF
    obtain ⟨k, hk, rfl, HJ, HF⟩ := hrel
    have r0 := cell_blk (k := 0) HF.out.2.1 rfl
    have r1 := cell_blk (k := 0) HF.out.2.2 rfl
    by_cases hkn : k < nv
    · have hki : (k : Int) < (nv : Int) := by omega
      obtain ⟨p1, o1, hv1', y0⟩ := (HV.out.1.below HF.out.1 (Nat.le_refl _)) k (by rw [HV.out.2.2.1]; exact hkn)
      obtain ⟨p2, o2, hv2', y1⟩ := (HV.out.2.1.below HF.out.1 (Nat.le_refl _)) k (by rw [HV.out.2.2.2]; exact hkn)
      subst hv1' hv2'
      obtain ⟨x, hx⟩ : ∃ x, V1.getD k 0 = x := ⟨_, rfl⟩
      obtain ⟨y, hy⟩ : ∃ y, V2.getD k 0 = y := ⟨_, rfl⟩
      rw [hx] at y0
      rw [hy] at y1
      have HX := Lib.hid hx
      have HY := Lib.hid hy
      clear hx hy
      go_wp2_with fail
      refine wp_region_x [] (fun W => W.cell? ⟨w.heap.size, 0, none⟩ = some (.slice (some ⟨p1, o1, none⟩) nv vc1) ∧ W.cell? ⟨w.heap.size + 1, 0, none⟩ = some (.slice (some ⟨p2, o2, none⟩) nv vc2) ∧ W.cell? ⟨p1, o1 + k, none⟩ = some (.int .i64 x) ∧ W.cell? ⟨p2, o2 + k, none⟩ = some (.int .i64 y)) hmx ?_
      have hS0 := And.intro (show wr.drew.cell? ⟨w.heap.size, 0, none⟩ = some (.slice (some ⟨p1, o1, none⟩) nv vc1) from r0) (And.intro (show wr.drew.cell? ⟨w.heap.size + 1, 0, none⟩ = some (.slice (some ⟨p2, o2, none⟩) nv vc2) from r1) (And.intro (show wr.drew.cell? ⟨p1, o1 + k, none⟩ = some (.int .i64 x) from y0) (show wr.drew.cell? ⟨p2, o2 + k, none⟩ = some (.int .i64 y) from y1)))
      refine wpX_take 0 (v := ?va0) rfl (by kernel_rfl) (by kernel_rfl) (by kernel_rfl) (by kernel_rfl) (fun _ _ _ h => h) hS0 (Or.inl ⟨by kernel_rfl, ?a0⟩) ?_
      case a0 => (intro W2 hS1; obtain ⟨s0, s1, s2, s3⟩ := hS1; go_simp; with_reducible rfl)
      refine wpX_take 1 (v := ?va1) rfl (by kernel_rfl) (by kernel_rfl) (by kernel_rfl) (by kernel_rfl) (fun _ _ _ h => h) hS0 (Or.inl ⟨by kernel_rfl, ?a1⟩) ?_
      case a1 => (intro W2 hS1; obtain ⟨s0, s1, s2, s3⟩ := hS1; go_simp; with_reducible rfl)
      refine wpX_take 2 (v := ?va2) rfl (by kernel_rfl) (by kernel_rfl) (by kernel_rfl) (by kernel_rfl) (fun _ _ _ h => h) hS0 (Or.inl ⟨by kernel_rfl, ?a2⟩) ?_
      case a2 => (intro W2 hS1; obtain ⟨s0, s1, s2, s3⟩ := hS1; go_simp; with_reducible rfl)
      refine wpX_take 3 (v := ?va3) rfl (by kernel_rfl) (by kernel_rfl) (by kernel_rfl) (by kernel_rfl) (fun _ _ _ h => h) hS0 (Or.inl ⟨by kernel_rfl, ?a3⟩) ?_
      case a3 => (intro W2 hS1; obtain ⟨s0, s1, s2, s3⟩ := hS1; go_simp; with_reducible rfl)
      refine wpX_take 4 (v := ?va4) rfl (by kernel_rfl) (by kernel_rfl) (by kernel_rfl) (by kernel_rfl) (fun _ _ _ h => h) hS0 (Or.inl ⟨by kernel_rfl, ?a4⟩) ?_
      case a4 => (intro W2 hS1; obtain ⟨s0, s1, s2, s3⟩ := hS1; go_simp; with_reducible rfl)
      refine wpX_take 5 (v := ?va5) rfl (by kernel_rfl) (by kernel_rfl) (by kernel_rfl) (by kernel_rfl) (fun _ _ _ h => h) hS0 (Or.inl ⟨by kernel_rfl, ?a5⟩) ?_
      case a5 => (intro W2 hS1; obtain ⟨s0, s1, s2, s3⟩ := hS1; go_simp; with_reducible rfl)
      refine wpX_take 6 (v := ?va6) rfl (by kernel_rfl) (by kernel_rfl) (by kernel_rfl) (by kernel_rfl) (fun _ _ _ h => h) hS0 (Or.inl ⟨by kernel_rfl, ?a6⟩) ?_
      case a6 => (intro W2 hS1; obtain ⟨s0, s1, s2, s3⟩ := hS1; go_simp; with_reducible rfl)
      refine wpX_take 7 (v := ?va7) rfl (by kernel_rfl) (by kernel_rfl) (by kernel_rfl) (by kernel_rfl) (fun _ _ _ h => h) hS0 (Or.inl ⟨by kernel_rfl, ?a7⟩) ?_
      case a7 => (intro W2 hS1; obtain ⟨s0, s1, s2, s3⟩ := hS1; go_simp; with_reducible rfl)
      refine wpX_take 8 (v := ?va8) rfl (by kernel_rfl) (by kernel_rfl) (by kernel_rfl) (by kernel_rfl) (fun _ _ _ h => h) hS0 (Or.inl ⟨by kernel_rfl, ?a8⟩) ?_
      case a8 => (intro W2 hS1; obtain ⟨s0, s1, s2, s3⟩ := hS1; go_simp; with_reducible rfl)
      refine wpX_take 9 (v := ?va9) rfl (by kernel_rfl) (by kernel_rfl) (by kernel_rfl) (by kernel_rfl) (fun _ _ _ h => h) hS0 (Or.inl ⟨by kernel_rfl, ?a9⟩) ?_
      case a9 => (intro W2 hS1; obtain ⟨s0, s1, s2, s3⟩ := hS1; go_simp; with_reducible rfl)
      refine wpX_take 10 (v := ?va10) rfl (by kernel_rfl) (by kernel_rfl) (by kernel_rfl) (by kernel_rfl) (fun _ _ _ h => h) hS0 (Or.inl ⟨by kernel_rfl, ?a10⟩) ?_
      case a10 => (intro W2 hS1; obtain ⟨s0, s1, s2, s3⟩ := hS1; go_simp; with_reducible rfl)
      refine wpX_done (by kernel_rfl) ?_ _
      go_simp
      have HF2 : Hid (Below w.heap.size w wr.drew ∧ wr.drew.heap[w.heap.size]? = _ ∧ wr.drew.heap[w.heap.size + 1]? = _) := Lib.hid ⟨HF.out.1.drew, HF.out.2.1, HF.out.2.2⟩
      clear hS0 y0 y1 r0 r1 HF
      by_cases hxy : x = y
      · have hxy' : (x != y) = false := by rw [bne_eq_false_iff_eq]; exact hxy
        have HXY := Lib.hid hxy
        clear hxy
        go_wp2
        case roundEnd =>
          refine ⟨⟨k + 1, by omega, by go_num, Lib.hid (fun j hj => ?_), HF2⟩, by simp [intOf]; omega⟩
          rcases Nat.lt_or_ge j k with h | h
          · exact HJ.out j h
          · obtain rfl : j = k := by omega
            rw [HX.out, HY.out, HXY.out]
      · have hxy' : (x != y) = true := by rw [bne_iff_ne]; exact hxy
        have HXY := Lib.hid hxy
        clear hxy
        go_wp2
        go_ret
        refine ⟨?_, HF2.out.1⟩
        rw [← HR.out, decide_eq_false (fun e => HXY.out (by rw [← HX.out, ← HY.out, e.1]))]
        rfl
    · have HV12 : Hid (V1 = V2) := Lib.hid (getD_ext (d := 0) (HV.out.2.2.1.trans HV.out.2.2.2.symm) (fun j hj => HJ.out j (by have := HV.out.2.2.1; omega)))
      obtain rfl : nv = k := by omega
      clear HJ
      go_wp2_with fail
      clear r0 r1
      have HFW := HF
      go_loopw [6] (fun x wr => ∃ k : Nat, k ≤ nt ∧ x = .int .i64 k ∧ Hid (∀ j, j < k → sameC (T1.getD j default) (T2.getD j default)) ∧ Hid (Below w.heap.size w wr ∧ wr.heap[w.heap.size]? = some (.cells #[.slice va1 nv vc1, .slice aa1 na ac1, .slice ca1 nc cc1, .int .i64 mu, .int .i64 co, .slice ta1 nt tc1] 27 (0, 0)) ∧ wr.heap[w.heap.size + 1]? = some (.cells #[.slice va2 nv vc2, .slice aa2 na ac2, .slice ca2 nc cc2, .int .i64 mu, .int .i64 co, .slice ta2 nt tc2] 27 (0, 0)))) (fun x _ => nt - (intOf x).toNat)
      case atStart => exact ⟨0, Nat.zero_le _, rfl, Lib.hid (fun j hj => by omega), HF⟩
      case round =>
        clear HF HFW
        obtain ⟨k, hk, rfl, HJ, HF⟩ := hrel
        have r0 := cell_blk (k := 5) HF.out.2.1 rfl
        have r1 := cell_blk (k := 5) HF.out.2.2 rfl
        by_cases hkn : k < nt
        · have hki : (k : Int) < (nt : Int) := by omega
          have hC1 := HT.out.1.below HF.out.1 (Nat.le_refl _)
          have hC2 := HT.out.2.1.below HF.out.1 (Nat.le_refl _)
          obtain ⟨p1, o1, hv1', y0, y1, y2, y3, ok1⟩ := hC1 k (by rw [HT.out.2.2.1]; exact hkn)
          obtain ⟨p2, o2, hv2', z0, z1, z2, z3, ok2⟩ := hC2 k (by rw [HT.out.2.2.2]; exact hkn)
          obtain ⟨c, hc⟩ : ∃ c, T1.getD k default = c := ⟨_, rfl⟩
          obtain ⟨d, hd⟩ : ∃ d, T2.getD k default = d := ⟨_, rfl⟩
          rw [hc] at y0 y1 y2 y3 ok1
          rw [hd] at z0 z1 z2 z3 ok2
          have HC := Lib.hid hc
          have HD := Lib.hid hd
          clear hC1 hC2 hc hd
          subst hv1' hv2'
          have hrd := rcode_any (w := wr.drew) (ok1.below (Below.refl _ _).drew (Nat.le_refl _)) (ok2.below (Below.refl _ _).drew (Nat.le_refl _))
          obtain ⟨s1, hs1⟩ : ∃ s, decide (sameC c d) = s := ⟨_, rfl⟩
          rw [hs1] at hrd
          have HS1 := Lib.hid hs1
          clear hs1
          obtain ⟨cn, cl, cia, cic, ci, cla, clc, cls⟩ := c
          obtain ⟨dn, dl, dia, dic, di, dla, dlc, dls⟩ := d
          dsimp only at y0 y1 y2 y3 z0 z1 z2 z3 hrd
          have HRD := Lib.hid hrd
          clear ok1 ok2 hrd
          go_wp2_with fail
          refine wp_region_x [] (fun W => W.cell? ⟨w.heap.size, 5, none⟩ = some (.slice (some ⟨p1, o1, none⟩) nt tc1) ∧ W.cell? ⟨w.heap.size + 1, 5, none⟩ = some (.slice (some ⟨p2, o2, none⟩) nt tc2) ∧ W.cell? ⟨p1, o1 + k * 4, none⟩ = some (.string cn) ∧ W.cell? ⟨p1, o1 + k * 4 + 1, none⟩ = some (.int .i64 cl) ∧ W.cell? ⟨p1, o1 + k * 4 + 2, none⟩ = some (.slice cia ci.length cic) ∧ W.cell? ⟨p1, o1 + k * 4 + 3, none⟩ = some (.slice cla cls.length clc) ∧ W.cell? ⟨p2, o2 + k * 4, none⟩ = some (.string dn) ∧ W.cell? ⟨p2, o2 + k * 4 + 1, none⟩ = some (.int .i64 dl) ∧ W.cell? ⟨p2, o2 + k * 4 + 2, none⟩ = some (.slice dia di.length dic) ∧ W.cell? ⟨p2, o2 + k * 4 + 3, none⟩ = some (.slice dla dls.length dlc)) hmx ?_
          have hS0 : wr.drew.cell? ⟨w.heap.size, 5, none⟩ = some (.slice (some ⟨p1, o1, none⟩) nt tc1) ∧ wr.drew.cell? ⟨w.heap.size + 1, 5, none⟩ = some (.slice (some ⟨p2, o2, none⟩) nt tc2) ∧ wr.drew.cell? ⟨p1, o1 + k * 4, none⟩ = some (.string cn) ∧ wr.drew.cell? ⟨p1, o1 + k * 4 + 1, none⟩ = some (.int .i64 cl) ∧ wr.drew.cell? ⟨p1, o1 + k * 4 + 2, none⟩ = some (.slice cia ci.length cic) ∧ wr.drew.cell? ⟨p1, o1 + k * 4 + 3, none⟩ = some (.slice cla cls.length clc) ∧ wr.drew.cell? ⟨p2, o2 + k * 4, none⟩ = some (.string dn) ∧ wr.drew.cell? ⟨p2, o2 + k * 4 + 1, none⟩ = some (.int .i64 dl) ∧ wr.drew.cell? ⟨p2, o2 + k * 4 + 2, none⟩ = some (.slice dia di.length dic) ∧ wr.drew.cell? ⟨p2, o2 + k * 4 + 3, none⟩ = some (.slice dla dls.length dlc) := ⟨r0, r1, y0, y1, y2, y3, z0, z1, z2, z3⟩
          have hkeep : ∀ W, Below wr.drew.heap.size wr.drew W → W.cell? ⟨w.heap.size, 5, none⟩ = some (.slice (some ⟨p1, o1, none⟩) nt tc1) ∧ W.cell? ⟨w.heap.size + 1, 5, none⟩ = some (.slice (some ⟨p2, o2, none⟩) nt tc2) ∧ W.cell? ⟨p1, o1 + k * 4, none⟩ = some (.string cn) ∧ W.cell? ⟨p1, o1 + k * 4 + 1, none⟩ = some (.int .i64 cl) ∧ W.cell? ⟨p1, o1 + k * 4 + 2, none⟩ = some (.slice cia ci.length cic) ∧ W.cell? ⟨p1, o1 + k * 4 + 3, none⟩ = some (.slice cla cls.length clc) ∧ W.cell? ⟨p2, o2 + k * 4, none⟩ = some (.string dn) ∧ W.cell? ⟨p2, o2 + k * 4 + 1, none⟩ = some (.int .i64 dl) ∧ W.cell? ⟨p2, o2 + k * 4 + 2, none⟩ = some (.slice dia di.length dic) ∧ W.cell? ⟨p2, o2 + k * 4 + 3, none⟩ = some (.slice dla dls.length dlc) := fun W hb => ⟨(hb.cell (p := ⟨w.heap.size, 5, none⟩) (World.block_lt_of_cell? wr _ r0)).trans r0, (hb.cell (p := ⟨w.heap.size + 1, 5, none⟩) (World.block_lt_of_cell? wr _ r1)).trans r1, (hb.cell (p := ⟨p1, o1 + k * 4, none⟩) (World.block_lt_of_cell? wr _ y0)).trans y0, (hb.cell (p := ⟨p1, o1 + k * 4 + 1, none⟩) (World.block_lt_of_cell? wr _ y1)).trans y1, (hb.cell (p := ⟨p1, o1 + k * 4 + 2, none⟩) (World.block_lt_of_cell? wr _ y2)).trans y2, (hb.cell (p := ⟨p1, o1 + k * 4 + 3, none⟩) (World.block_lt_of_cell? wr _ y3)).trans y3, (hb.cell (p := ⟨p2, o2 + k * 4, none⟩) (World.block_lt_of_cell? wr _ z0)).trans z0, (hb.cell (p := ⟨p2, o2 + k * 4 + 1, none⟩) (World.block_lt_of_cell? wr _ z1)).trans z1, (hb.cell (p := ⟨p2, o2 + k * 4 + 2, none⟩) (World.block_lt_of_cell? wr _ z2)).trans z2, (hb.cell (p := ⟨p2, o2 + k * 4 + 3, none⟩) (World.block_lt_of_cell? wr _ z3)).trans z3⟩
          have HKEEP := Lib.hid hkeep
          clear hkeep
          refine wpX_take 0 (v := ?vb0) rfl (by kernel_rfl) (by kernel_rfl) (by kernel_rfl) (by kernel_rfl) (fun _ _ _ h => h) hS0 (Or.inl ⟨by kernel_rfl, ?b0⟩) ?_
          case b0 => (intro W2 hS1; obtain ⟨s0, s1, s2, s3, s4, s5, s6, s7, s8, s9⟩ := hS1; go_simp; with_reducible rfl)
          refine wpX_take 1 (v := ?vb1) rfl (by kernel_rfl) (by kernel_rfl) (by kernel_rfl) (by kernel_rfl) (fun _ _ _ h => h) hS0 (Or.inl ⟨by kernel_rfl, ?b1⟩) ?_
          case b1 => (intro W2 hS1; obtain ⟨s0, s1, s2, s3, s4, s5, s6, s7, s8, s9⟩ := hS1; go_simp; with_reducible rfl)
          refine wpX_take 2 (v := ?vb2) rfl (by kernel_rfl) (by kernel_rfl) (by kernel_rfl) (by kernel_rfl) (fun _ _ _ h => h) hS0 (Or.inl ⟨by kernel_rfl, ?b2⟩) ?_
          case b2 => (intro W2 hS1; obtain ⟨s0, s1, s2, s3, s4, s5, s6, s7, s8, s9⟩ := hS1; go_simp; with_reducible rfl)
          refine wpX_take 3 (v := ?vb3) rfl (by kernel_rfl) (by kernel_rfl) (by kernel_rfl) (by kernel_rfl) (fun _ _ _ h => h) hS0 (Or.inl ⟨by kernel_rfl, ?b3⟩) ?_
          case b3 => (intro W2 hS1; obtain ⟨s0, s1, s2, s3, s4, s5, s6, s7, s8, s9⟩ := hS1; go_simp; with_reducible rfl)
          refine wpX_take 4 (v := ?vb4) rfl (by kernel_rfl) (by kernel_rfl) (by kernel_rfl) (by kernel_rfl) (fun _ _ _ h => h) hS0 (Or.inl ⟨by kernel_rfl, ?b4⟩) ?_
          case b4 => (intro W2 hS1; obtain ⟨s0, s1, s2, s3, s4, s5, s6, s7, s8, s9⟩ := hS1; go_simp; with_reducible rfl)
          refine wpX_take 5 (v := ?vb5) rfl (by kernel_rfl) (by kernel_rfl) (by kernel_rfl) (by kernel_rfl) (fun _ _ _ h => h) hS0 (Or.inl ⟨by kernel_rfl, ?b5⟩) ?_
          case b5 => (intro W2 hS1; obtain ⟨s0, s1, s2, s3, s4, s5, s6, s7, s8, s9⟩ := hS1; go_simp; with_reducible rfl)
          refine wpX_take 6 (v := ?vb6) rfl (by kernel_rfl) (by kernel_rfl) (by kernel_rfl) (by kernel_rfl) (fun _ _ _ h => h) hS0 (Or.inl ⟨by kernel_rfl, ?b6⟩) ?_
          case b6 => (intro W2 hS1; obtain ⟨s0, s1, s2, s3, s4, s5, s6, s7, s8, s9⟩ := hS1; go_simp; with_reducible rfl)
          refine wpX_take 7 (v := ?vb7) rfl (by kernel_rfl) (by kernel_rfl) (by kernel_rfl) (by kernel_rfl) (fun _ _ _ h => h) hS0 (Or.inl ⟨by kernel_rfl, ?b7⟩) ?_
          case b7 => (intro W2 hS1; obtain ⟨s0, s1, s2, s3, s4, s5, s6, s7, s8, s9⟩ := hS1; go_simp; with_reducible rfl)
          refine wpX_take 8 (v := ?vb8) rfl (by kernel_rfl) (by kernel_rfl) (by kernel_rfl) (by kernel_rfl) (fun _ _ _ h => h) hS0 (Or.inl ⟨by kernel_rfl, ?b8⟩) ?_
          case b8 => (intro W2 hS1; obtain ⟨s0, s1, s2, s3, s4, s5, s6, s7, s8, s9⟩ := hS1; go_simp; with_reducible rfl)
          refine wpX_take 9 (v := ?vb9) rfl (by kernel_rfl) (by kernel_rfl) (by kernel_rfl) (by kernel_rfl) (fun _ _ _ h => h) hS0 (Or.inl ⟨by kernel_rfl, ?b9⟩) ?_
          case b9 => (intro W2 hS1; obtain ⟨s0, s1, s2, s3, s4, s5, s6, s7, s8, s9⟩ := hS1; go_simp; with_reducible rfl)
          refine wpX_one 10 (by kernel_rfl) rfl (fun K hK => ?_)
          go_simp
          refine HRD.out.mono ?_
          rintro e w7 ⟨rfl, hb7⟩
          have hS1 := HKEEP.out w7 hb7
          have hbx : Below w.heap.size w w7 := HF.out.1.drew.trans (hb7.mono HF.out.1.size)
          have HF7 : Hid (Below w.heap.size w w7 ∧ w7.heap[w.heap.size]? = _ ∧ w7.heap[w.heap.size + 1]? = _) := Lib.hid ⟨hbx, (hb7.block w.heap.size (Array.getElem?_eq_some_iff.1 HF.out.2.1).1).trans HF.out.2.1, (hb7.block (w.heap.size + 1) (Array.getElem?_eq_some_iff.1 HF.out.2.2).1).trans HF.out.2.2⟩
          clear hb7 hbx HRD HKEEP y0 y1 y2 y3 z0 z1 z2 z3 r0 r1 HF hS0
          refine hK _ _ (fun _ => hS1) ?_
          clear hK K
          refine wpX_one 11 (by kernel_rfl) rfl (fun K hK => ?_)
          go_simp
          refine hK _ _ (fun _ => hS1) ?_
          clear hK K
          refine wpX_done (by kernel_rfl) ?_ _
          go_simp
          clear hS1
          cases s1 with
          | true =>
            go_wp2
            case roundEnd =>
              refine ⟨⟨k + 1, by omega, by go_num, Lib.hid (fun j hj => ?_), HF7⟩, by simp [intOf]; omega⟩
              rcases Nat.lt_or_ge j k with h | h
              · exact HJ.out j h
              · obtain rfl : j = k := by omega
                rw [HC.out, HD.out]
                exact of_decide_eq_true HS1.out
          | false =>
            go_wp2
            go_ret
            refine ⟨?_, HF7.out.1⟩
            rw [← HR.out, decide_eq_false]
            · rfl
            · intro e
              have h := e.2 k hkn
              rw [HC.out, HD.out] at h
              exact of_decide_eq_false HS1.out h
        · obtain rfl : k = nt := by omega
          go_wp2
          go_ret
          refine ⟨?_, HF.out.1⟩
          rw [← HR.out, decide_eq_true ⟨HV12.out, HJ.out⟩]
          rfl
set_option maxRecDepth 100000 in
set_option maxHeartbeats 16000000 in
/-- Where the heads differ. -/
theorem rsame_head {w : World} {va1 aa1 ca1 ta1 va2 aa2 ca2 ta2 : Option Addr} {vc1 ac1 cc1 tc1 vc2 ac2 cc2 tc2 nv1 na1 nc1 nt1 nv2 na2 nc2 nt2 : Nat} {A1 A2 C1 C2 : List Int} {mu1 co1 mu2 co2 : Int}
    (hna1 : A1.length = na1) (hnc1 : C1.length = nc1) (hna2 : A2.length = na2) (hnc2 : C2.length = nc2) (b1 : na1 ≤ 281474976710656) (b2 : na2 ≤ 281474976710656) (b3 : nc1 ≤ 281474976710656) (b4 : nc2 ≤ 281474976710656)
    (ha1 : Ints w aa1 A1) (ha2 : Ints w aa2 A2) (hc1 : Ints w ca1 C1) (hc2 : Ints w ca2 C2) (hd : ¬ (nv1 = nv2 ∧ A1 = A2 ∧ C1 = C2 ∧ mu1 = mu2 ∧ co1 = co2 ∧ nt1 = nt2)) :
    Calls Tryd.prog 12 #[.agg #[.slice va1 nv1 vc1, .slice aa1 na1 ac1, .slice ca1 nc1 cc1, .int .i64 mu1, .int .i64 co1, .slice ta1 nt1 tc1], .agg #[.slice va2 nv2 vc2, .slice aa2 na2 ac2, .slice ca2 nc2 cc2, .int .i64 mu2, .int .i64 co2, .slice ta2 nt2 tc2]] w fun e w' => e = .returned (.bool false) ∧ Below w.heap.size w w' := by
  have hB0 : Below w.heap.size w ((w.alloc (.cells #[.slice va1 nv1 vc1, .slice aa1 na1 ac1, .slice ca1 nc1 cc1, .int .i64 mu1, .int .i64 co1, .slice ta1 nt1 tc1] 27)).alloc (.cells #[.slice va2 nv2 vc2, .slice aa2 na2 ac2, .slice ca2 nc2 cc2, .int .i64 mu2, .int .i64 co2, .slice ta2 nt2 tc2] 27)) := ((Below.refl _ w).alloc (Nat.le_refl _) _).alloc (by simp) _
  have hx : ((w.alloc (.cells #[.slice va1 nv1 vc1, .slice aa1 na1 ac1, .slice ca1 nc1 cc1, .int .i64 mu1, .int .i64 co1, .slice ta1 nt1 tc1] 27)).alloc (.cells #[.slice va2 nv2 vc2, .slice aa2 na2 ac2, .slice ca2 nc2 cc2, .int .i64 mu2, .int .i64 co2, .slice ta2 nt2 tc2] 27)).heap[w.heap.size]? = some (.cells #[.slice va1 nv1 vc1, .slice aa1 na1 ac1, .slice ca1 nc1 cc1, .int .i64 mu1, .int .i64 co1, .slice ta1 nt1 tc1] 27 (0, 0)) := (Below.heap_alloc _ _ w.heap.size (by simp)).trans (World.alloc_heap_new w _)
  have hy : ((w.alloc (.cells #[.slice va1 nv1 vc1, .slice aa1 na1 ac1, .slice ca1 nc1 cc1, .int .i64 mu1, .int .i64 co1, .slice ta1 nt1 tc1] 27)).alloc (.cells #[.slice va2 nv2 vc2, .slice aa2 na2 ac2, .slice ca2 nc2 cc2, .int .i64 mu2, .int .i64 co2, .slice ta2 nt2 tc2] 27)).heap[w.heap.size + 1]? = some (.cells #[.slice va2 nv2 vc2, .slice aa2 na2 ac2, .slice ca2 nc2 cc2, .int .i64 mu2, .int .i64 co2, .slice ta2 nt2 tc2] 27 (0, 0)) := by
    have := World.alloc_heap_new (w.alloc (.cells #[.slice va1 nv1 vc1, .slice aa1 na1 ac1, .slice ca1 nc1 cc1, .int .i64 mu1, .int .i64 co1, .slice ta1 nt1 tc1] 27)) (.cells #[.slice va2 nv2 vc2, .slice aa2 na2 ac2, .slice ca2 nc2 cc2, .int .i64 mu2, .int .i64 co2, .slice ta2 nt2 tc2] 27)
    rwa [World.size_alloc] at this
  have hra := rints_any (w := ((w.alloc (.cells #[.slice va1 nv1 vc1, .slice aa1 na1 ac1, .slice ca1 nc1 cc1, .int .i64 mu1, .int .i64 co1, .slice ta1 nt1 tc1] 27)).alloc (.cells #[.slice va2 nv2 vc2, .slice aa2 na2 ac2, .slice ca2 nc2 cc2, .int .i64 mu2, .int .i64 co2, .slice ta2 nt2 tc2] 27))) (c := ac1) (c' := ac2) hna1 hna2 b1 b2 (ha1.below hB0 (Nat.le_refl _)) (ha2.below hB0 (Nat.le_refl _))
  have hrc := fun W (h : Below w.heap.size w W) => rints_any (w := W) (c := cc1) (c' := cc2) hnc1 hnc2 b3 b4 (hc1.below h (Nat.le_refl _)) (hc2.below h (Nat.le_refl _))
  have HRC := Lib.hid hrc
  have HB0 := Lib.hid hB0
  have HX := Lib.hid hx
  have HY := Lib.hid hy
  have HD := Lib.hid hd
  clear hrc hB0 hx hy ha1 ha2 hc1 hc2 hna1 hna2 hnc1 hnc2 hd
  by_cases e1 : nv1 = nv2
  · subst e1
    have q1 : ((nv1 : Int) != (nv1 : Int)) = false := by simp
    by_cases e2 : A1 = A2
    · rw [decide_eq_true e2] at hra
      have HE2 := Lib.hid e2
      clear e2
      go_enter Tryd.func12, Tryd.ntmps12
      go_wp2_with fail
      refine hra.mono ?_
      rintro e w1 ⟨rfl, hb1⟩
      have hbA : Below w.heap.size w w1 := HB0.out.trans (hb1.mono HB0.out.size)
      have hx1 := (hb1.block w.heap.size (Array.getElem?_eq_some_iff.1 HX.out).1).trans HX.out
      have hy1 := (hb1.block (w.heap.size + 1) (Array.getElem?_eq_some_iff.1 HY.out).1).trans HY.out
      have HX1 := Lib.hid hx1
      have HY1 := Lib.hid hy1
      have HBA := Lib.hid hbA
      have hrc := HRC.out w1 hbA
      have x2 := cell_blk (w := w1) (k := 2) hx1 rfl
      have y2 := cell_blk (w := w1) (k := 2) hy1 rfl
      clear hra hb1 hbA hx1 hy1 HX HY HB0 HRC
      by_cases e3 : C1 = C2
      · rw [decide_eq_true e3] at hrc
        have HE3 := Lib.hid e3
        clear e3
        go_wp2_with fail
        refine hrc.mono ?_
        rintro e w2 ⟨rfl, hb2⟩
        have HBB := Lib.hid (HBA.out.trans (hb2.mono HBA.out.size))
        have hx2 := (hb2.block w.heap.size (Array.getElem?_eq_some_iff.1 HX1.out).1).trans HX1.out
        have hy2 := (hb2.block (w.heap.size + 1) (Array.getElem?_eq_some_iff.1 HY1.out).1).trans HY1.out
        have x3 := cell_blk (w := w2) (k := 3) hx2 rfl
        have y3 := cell_blk (w := w2) (k := 3) hy2 rfl
        have x4 := cell_blk (w := w2) (k := 4) hx2 rfl
        have y4 := cell_blk (w := w2) (k := 4) hy2 rfl
        have x5 := cell_blk (w := w2) (k := 5) hx2 rfl
        have y5 := cell_blk (w := w2) (k := 5) hy2 rfl
        clear hrc hb2 hx2 hy2 HX1 HY1 HBA x2 y2
        by_cases e4 : mu1 = mu2
        · have q4 : (mu1 != mu2) = false := by rw [bne_eq_false_iff_eq]; exact e4
          by_cases e5 : co1 = co2
          · have q5 : (co1 != co2) = false := by rw [bne_eq_false_iff_eq]; exact e5
            have e6 : nt1 ≠ nt2 := fun e6 => HD.out ⟨by trivial, HE2.out, HE3.out, e4, e5, e6⟩
            have q6 : ((nt1 : Int) != (nt2 : Int)) = true := by rw [bne_iff_ne]; omega
            clear e4 e5
            go_wp2
            go_ret
            exact ⟨rfl, HBB.out⟩
          · have q5 : (co1 != co2) = true := by rw [bne_iff_ne]; exact e5
            clear e4 e5
            go_wp2
            go_ret
            exact ⟨rfl, HBB.out⟩
        · have q4 : (mu1 != mu2) = true := by rw [bne_iff_ne]; exact e4
          clear e4
          go_wp2
          go_ret
          exact ⟨rfl, HBB.out⟩
      · rw [decide_eq_false e3] at hrc
        clear e3
        go_wp2_with fail
        refine hrc.mono ?_
        rintro e w2 ⟨rfl, hb2⟩
        have HBB := Lib.hid (HBA.out.trans (hb2.mono HBA.out.size))
        clear hrc hb2 x2 y2
        go_wp2
        go_ret
        exact ⟨rfl, HBB.out⟩
    · rw [decide_eq_false e2] at hra
      clear e2 HRC
      go_enter Tryd.func12, Tryd.ntmps12
      go_wp2_with fail
      refine hra.mono ?_
      rintro e w1 ⟨rfl, hb1⟩
      have HBB := Lib.hid (HB0.out.trans (hb1.mono HB0.out.size))
      clear hra hb1
      go_wp2
      go_ret
      exact ⟨rfl, HBB.out⟩
  · have q1 : ((nv1 : Int) != (nv2 : Int)) = true := by rw [bne_iff_ne]; omega
    clear e1 HRC hra
    go_enter Tryd.func12, Tryd.ntmps12
    go_wp2
    go_ret
    exact ⟨rfl, HB0.out⟩
theorem rsame_any {w : World} {a b : ModM} (ha : ModOk w a) (hb : ModOk w b) :
    Calls Tryd.prog 12 #[.agg a.cells, .agg b.cells] w fun e w' => e = .returned (.bool (decide (sameM a b))) ∧ Below w.heap.size w w' := by
  by_cases hd : a.vars.length = b.vars.length ∧ a.arrays = b.arrays ∧ a.chans = b.chans ∧ a.mu = b.mu ∧ a.co = b.co ∧ a.threads.length = b.threads.length
  · obtain ⟨va1, vc1, V1, aa1, ac1, A1, ca1, cc1, C1, mu1, co1, ta1, tc1, T1⟩ := a
    obtain ⟨va2, vc2, V2, aa2, ac2, A2, ca2, cc2, C2, mu2, co2, ta2, tc2, T2⟩ := b
    simp only at hd
    obtain ⟨h1, rfl, rfl, rfl, rfl, h6⟩ := hd
    have := rsame_gen (V1 := V1) (V2 := V2) (T1 := T1) (T2 := T2) (vc1 := vc1) (vc2 := vc2) (ac1 := ac1) (ac2 := ac2) (cc1 := cc1) (cc2 := cc2) (tc1 := tc1) (tc2 := tc2) (mu := mu1) (co := co1) h1 rfl rfl rfl h6 rfl hb.vb ha.ab ha.cb hb.tb ha.vv hb.vv ha.av hb.av ha.cv hb.cv ha.tv hb.tv
    simp only [ModM.cells]
    rw [h1, h6]
    have e : decide (sameM ⟨va1, vc1, V1, aa1, ac1, A1, ca1, cc1, C1, mu1, co1, ta1, tc1, T1⟩ ⟨va2, vc2, V2, aa2, ac2, A1, ca2, cc2, C1, mu1, co1, ta2, tc2, T2⟩) = decide (V1 = V2 ∧ ∀ j, j < T2.length → sameC (T1.getD j default) (T2.getD j default)) := by
      refine decide_eq_decide.2 ?_
      simp only [sameM, h6, true_and]
    rw [e]
    exact this
  · rw [decide_eq_false (fun h => hd ⟨by rw [h.1], h.2.1, h.2.2.1, h.2.2.2.1, h.2.2.2.2.1, h.2.2.2.2.2.1⟩)]
    exact rsame_head rfl rfl rfl rfl ha.ab hb.ab ha.cb hb.cb ha.av hb.av ha.cv hb.cv hd
end Go.Proofs.YtjbinejaagpleaaDoor
