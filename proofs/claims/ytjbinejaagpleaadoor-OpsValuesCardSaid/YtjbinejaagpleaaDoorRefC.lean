/- The document's Same, of modules that are the same. Asked: the modules lie. -/
import Derived.Test.YtjbinejaagpleaaDoorRefB
namespace Go.Proofs.YtjbinejaagpleaaDoor
open Go.RowKit

set_option maxRecDepth 100000 in
set_option maxHeartbeats 16000000 in
theorem rsame_core {w : World} {va1 aa1 ca1 ta1 va2 aa2 ca2 ta2 : Option Addr} {vc1 ac1 cc1 tc1 vc2 ac2 cc2 tc2 nv na nc nt : Nat} {vars arrays chans : List Int} {mu co : Int} {T1 T2 : List CodeM}
    (hnv : vars.length = nv) (hna : arrays.length = na) (hnc : chans.length = nc) (hn1 : T1.length = nt) (hn2 : T2.length = nt) (_b1 : nv ≤ 281474976710656) (b2 : na ≤ 281474976710656) (b3 : nc ≤ 281474976710656) (_b4 : nt ≤ 281474976710656)
    (hv1 : Ints w va1 vars) (hv2 : Ints w va2 vars) (ha1 : Ints w aa1 arrays) (ha2 : Ints w aa2 arrays) (hc1 : Ints w ca1 chans) (hc2 : Ints w ca2 chans) (ht1 : Cds w ta1 T1) (ht2 : Cds w ta2 T2)
    (hs : ∀ j, j < nt → sameC (T1.getD j default) (T2.getD j default)) :
    Calls Tryd.prog 12 #[.agg #[.slice va1 nv vc1, .slice aa1 na ac1, .slice ca1 nc cc1, .int .i64 mu, .int .i64 co, .slice ta1 nt tc1], .agg #[.slice va2 nv vc2, .slice aa2 na ac2, .slice ca2 nc cc2, .int .i64 mu, .int .i64 co, .slice ta2 nt tc2]] w fun e w' => e = .returned (.bool true) ∧ Below w.heap.size w w' := by
  have hmx : Tryd.prog.follows .mixedOrders = true := by kernel_rfl
  have hB0 : Below w.heap.size w ((w.alloc (.cells #[.slice va1 nv vc1, .slice aa1 na ac1, .slice ca1 nc cc1, .int .i64 mu, .int .i64 co, .slice ta1 nt tc1] 27)).alloc (.cells #[.slice va2 nv vc2, .slice aa2 na ac2, .slice ca2 nc cc2, .int .i64 mu, .int .i64 co, .slice ta2 nt tc2] 27)) := ((Below.refl _ w).alloc (Nat.le_refl _) _).alloc (by simp) _
  have hx : ((w.alloc (.cells #[.slice va1 nv vc1, .slice aa1 na ac1, .slice ca1 nc cc1, .int .i64 mu, .int .i64 co, .slice ta1 nt tc1] 27)).alloc (.cells #[.slice va2 nv vc2, .slice aa2 na ac2, .slice ca2 nc cc2, .int .i64 mu, .int .i64 co, .slice ta2 nt tc2] 27)).heap[w.heap.size]? = some (.cells #[.slice va1 nv vc1, .slice aa1 na ac1, .slice ca1 nc cc1, .int .i64 mu, .int .i64 co, .slice ta1 nt tc1] 27 (0, 0)) := (Below.heap_alloc _ _ w.heap.size (by simp)).trans (World.alloc_heap_new w _)
  have hy : ((w.alloc (.cells #[.slice va1 nv vc1, .slice aa1 na ac1, .slice ca1 nc cc1, .int .i64 mu, .int .i64 co, .slice ta1 nt tc1] 27)).alloc (.cells #[.slice va2 nv vc2, .slice aa2 na ac2, .slice ca2 nc cc2, .int .i64 mu, .int .i64 co, .slice ta2 nt tc2] 27)).heap[w.heap.size + 1]? = some (.cells #[.slice va2 nv vc2, .slice aa2 na ac2, .slice ca2 nc cc2, .int .i64 mu, .int .i64 co, .slice ta2 nt tc2] 27 (0, 0)) := by
    have := World.alloc_heap_new (w.alloc (.cells #[.slice va1 nv vc1, .slice aa1 na ac1, .slice ca1 nc cc1, .int .i64 mu, .int .i64 co, .slice ta1 nt tc1] 27)) (.cells #[.slice va2 nv vc2, .slice aa2 na ac2, .slice ca2 nc cc2, .int .i64 mu, .int .i64 co, .slice ta2 nt tc2] 27)
    rwa [World.size_alloc] at this
  have hra := rints_any (w := ((w.alloc (.cells #[.slice va1 nv vc1, .slice aa1 na ac1, .slice ca1 nc cc1, .int .i64 mu, .int .i64 co, .slice ta1 nt tc1] 27)).alloc (.cells #[.slice va2 nv vc2, .slice aa2 na ac2, .slice ca2 nc cc2, .int .i64 mu, .int .i64 co, .slice ta2 nt tc2] 27))) (c := ac1) (c' := ac2) hna hna b2 b2 (ha1.below hB0 (Nat.le_refl _)) (ha2.below hB0 (Nat.le_refl _))
  rw [decide_eq_true rfl] at hra
  have hrc := fun W (h : Below w.heap.size w W) => rints_any (w := W) (c := cc1) (c' := cc2) hnc hnc b3 b3 (hc1.below h (Nat.le_refl _)) (hc2.below h (Nat.le_refl _))
  simp only [decide_true] at hrc
  have HRC := Lib.hid hrc
  have HB0 := Lib.hid hB0
  have HX := Lib.hid hx
  have HY := Lib.hid hy
  have HV := Lib.hid (And.intro hv1 (And.intro hv2 hnv))
  have HT := Lib.hid (And.intro ht1 (And.intro ht2 (And.intro hn1 hn2)))
  have HSM := Lib.hid hs
  have q0 : ((nv : Int) != (nv : Int)) = false := by simp
  have q1 : ((nt : Int) != (nt : Int)) = false := by simp
  have q2 : (mu != mu) = false := by simp
  have q3 : (co != co) = false := by simp
  clear hrc hB0 hx hy hv1 hv2 ht1 ht2 hs hn1 hn2 ha1 ha2 hc1 hc2 hnv hna hnc
  go_enter Tryd.func12, Tryd.ntmps12
  go_wp2_with fail
  refine hra.mono ?_
  rintro e w1 ⟨rfl, hb1⟩
  have hbA : Below w.heap.size w w1 := HB0.out.trans (hb1.mono HB0.out.size)
  have hx1 := (hb1.block w.heap.size (Array.getElem?_eq_some_iff.1 HX.out).1).trans HX.out
  have hy1 := (hb1.block (w.heap.size + 1) (Array.getElem?_eq_some_iff.1 HY.out).1).trans HY.out
  have HX1 := Lib.hid hx1
  have HY1 := Lib.hid hy1
  have HBA := Lib.hid hbA
  have hrc := HRC.out w1 hbA
  have x2 := cell_blk (w := w1) (k := 2) hx1 rfl
  have y2 := cell_blk (w := w1) (k := 2) hy1 rfl
  have x3 := cell_blk (w := w1) (k := 3) hx1 rfl
  have y3 := cell_blk (w := w1) (k := 3) hy1 rfl
  have x4 := cell_blk (w := w1) (k := 4) hx1 rfl
  have y4 := cell_blk (w := w1) (k := 4) hy1 rfl
  have x5 := cell_blk (w := w1) (k := 5) hx1 rfl
  have y5 := cell_blk (w := w1) (k := 5) hy1 rfl
  clear hra hb1 hbA hx1 hy1 HX HY HB0 HRC
  go_wp2_with fail
  refine hrc.mono ?_
  rintro e w2 ⟨rfl, hb2⟩
  have HBB := Lib.hid (HBA.out.trans (hb2.mono HBA.out.size))
  have hx2 := (hb2.block w.heap.size (Array.getElem?_eq_some_iff.1 HX1.out).1).trans HX1.out
  have hy2 := (hb2.block (w.heap.size + 1) (Array.getElem?_eq_some_iff.1 HY1.out).1).trans HY1.out
  have HF : Hid (Below w.heap.size w w2 ∧ w2.heap[w.heap.size]? = some (.cells #[.slice va1 nv vc1, .slice aa1 na ac1, .slice ca1 nc cc1, .int .i64 mu, .int .i64 co, .slice ta1 nt tc1] 27 (0, 0)) ∧ w2.heap[w.heap.size + 1]? = some (.cells #[.slice va2 nv vc2, .slice aa2 na ac2, .slice ca2 nc cc2, .int .i64 mu, .int .i64 co, .slice ta2 nt tc2] 27 (0, 0))) := Lib.hid ⟨HBB.out, hx2, hy2⟩
  clear hrc hb2 HBA HBB HX1 HY1 x2 y2 x3 y3 x4 y4 x5 y5
  have x0 := cell_blk (w := w2) (k := 0) hx2 rfl
  have y0 := cell_blk (w := w2) (k := 0) hy2 rfl
  have x3 := cell_blk (w := w2) (k := 3) hx2 rfl
  have y3 := cell_blk (w := w2) (k := 3) hy2 rfl
  have x4 := cell_blk (w := w2) (k := 4) hx2 rfl
  have y4 := cell_blk (w := w2) (k := 4) hy2 rfl
  have x5 := cell_blk (w := w2) (k := 5) hx2 rfl
  have y5 := cell_blk (w := w2) (k := 5) hy2 rfl
  clear hx2 hy2
  go_wp2_with fail
  clear x0 y0 x3 y3 x4 y4 x5 y5
  go_loopw [5] (fun x wr => ∃ k : Nat, k ≤ nv ∧ x = .int .i64 k ∧ Hid (Below w.heap.size w wr ∧ wr.heap[w.heap.size]? = some (.cells #[.slice va1 nv vc1, .slice aa1 na ac1, .slice ca1 nc cc1, .int .i64 mu, .int .i64 co, .slice ta1 nt tc1] 27 (0, 0)) ∧ wr.heap[w.heap.size + 1]? = some (.cells #[.slice va2 nv vc2, .slice aa2 na ac2, .slice ca2 nc cc2, .int .i64 mu, .int .i64 co, .slice ta2 nt tc2] 27 (0, 0)))) (fun x _ => nv - (intOf x).toNat)
  case atStart => exact ⟨0, Nat.zero_le _, rfl, HF⟩
  case round =>
    clear HF
    obtain ⟨k, hk, rfl, HF⟩ := hrel
    have r0 := cell_blk (k := 0) HF.out.2.1 rfl
    have r1 := cell_blk (k := 0) HF.out.2.2 rfl
    by_cases hkn : k < nv
    · have hki : (k : Int) < (nv : Int) := by omega
      obtain ⟨p1, o1, hv1', y0⟩ := (HV.out.1.below HF.out.1 (Nat.le_refl _)) k (by rw [HV.out.2.2]; exact hkn)
      obtain ⟨p2, o2, hv2', y1⟩ := (HV.out.2.1.below HF.out.1 (Nat.le_refl _)) k (by rw [HV.out.2.2]; exact hkn)
      subst hv1' hv2'
      obtain ⟨x, hx⟩ : ∃ x, vars.getD k 0 = x := ⟨_, rfl⟩
      rw [hx] at y0 y1
      clear hx
      have hxx : (x != x) = false := by simp
      go_wp2_with fail
      refine wp_region_x [] (fun W => W.cell? ⟨w.heap.size, 0, none⟩ = some (.slice (some ⟨p1, o1, none⟩) nv vc1) ∧ W.cell? ⟨w.heap.size + 1, 0, none⟩ = some (.slice (some ⟨p2, o2, none⟩) nv vc2) ∧ W.cell? ⟨p1, o1 + k, none⟩ = some (.int .i64 x) ∧ W.cell? ⟨p2, o2 + k, none⟩ = some (.int .i64 x)) hmx ?_
      have hS0 := And.intro (show wr.drew.cell? ⟨w.heap.size, 0, none⟩ = some (.slice (some ⟨p1, o1, none⟩) nv vc1) from r0) (And.intro (show wr.drew.cell? ⟨w.heap.size + 1, 0, none⟩ = some (.slice (some ⟨p2, o2, none⟩) nv vc2) from r1) (And.intro (show wr.drew.cell? ⟨p1, o1 + k, none⟩ = some (.int .i64 x) from y0) (show wr.drew.cell? ⟨p2, o2 + k, none⟩ = some (.int .i64 x) from y1)))
      refine wpX_take 0 (v := ?va0) rfl (by kernel_rfl) (by kernel_rfl) (by kernel_rfl) (by kernel_rfl) (fun _ _ _ h => h) hS0 (Or.inl ⟨by kernel_rfl, ?a0⟩) ?_
      case a0 => (intro W2 hS1; obtain ⟨s0, s1, s2, s3⟩ := hS1; go_simp; with_reducible rfl)
      refine wpX_take 1 (v := ?va1) rfl (by kernel_rfl) (by kernel_rfl) (by kernel_rfl) (by kernel_rfl) (fun _ _ _ h => h) hS0 (Or.inl ⟨by kernel_rfl, ?a1⟩) ?_
      case a1 => (intro W2 hS1; obtain ⟨s0, s1, s2, s3⟩ := hS1; go_simp; with_reducible rfl)
      refine wpX_take 2 (v := ?va2) rfl (by kernel_rfl) (by kernel_rfl) (by kernel_rfl) (by kernel_rfl) (fun _ _ _ h => h) hS0 (Or.inl ⟨by kernel_rfl, ?a2⟩) ?_
      case a2 => (intro W2 hS1; obtain ⟨s0, s1, s2, s3⟩ := hS1; go_simp; with_reducible rfl)
      refine wpX_take 3 (v := ?va3) rfl (by kernel_rfl) (by kernel_rfl) (by kernel_rfl) (by kernel_rfl) (fun _ _ _ h => h) hS0 (Or.inl ⟨by kernel_rfl, ?a3⟩) ?_
      case a3 => (intro W2 hS1; obtain ⟨s0, s1, s2, s3⟩ := hS1; go_simp; with_reducible rfl)
      refine wpX_take 4 (v := ?va4) rfl (by kernel_rfl) (by kernel_rfl) (by kernel_rfl) (by kernel_rfl) (fun _ _ _ h => h) hS0 (Or.inl ⟨by kernel_rfl, ?a4⟩) ?_
      case a4 => (intro W2 hS1; obtain ⟨s0, s1, s2, s3⟩ := hS1; go_simp; with_reducible rfl)
      refine wpX_take 5 (v := ?va5) rfl (by kernel_rfl) (by kernel_rfl) (by kernel_rfl) (by kernel_rfl) (fun _ _ _ h => h) hS0 (Or.inl ⟨by kernel_rfl, ?a5⟩) ?_
      case a5 => (intro W2 hS1; obtain ⟨s0, s1, s2, s3⟩ := hS1; go_simp; with_reducible rfl)
      refine wpX_take 6 (v := ?va6) rfl (by kernel_rfl) (by kernel_rfl) (by kernel_rfl) (by kernel_rfl) (fun _ _ _ h => h) hS0 (Or.inl ⟨by kernel_rfl, ?a6⟩) ?_
      case a6 => (intro W2 hS1; obtain ⟨s0, s1, s2, s3⟩ := hS1; go_simp; with_reducible rfl)
      refine wpX_take 7 (v := ?va7) rfl (by kernel_rfl) (by kernel_rfl) (by kernel_rfl) (by kernel_rfl) (fun _ _ _ h => h) hS0 (Or.inl ⟨by kernel_rfl, ?a7⟩) ?_
      case a7 => (intro W2 hS1; obtain ⟨s0, s1, s2, s3⟩ := hS1; go_simp; with_reducible rfl)
      refine wpX_take 8 (v := ?va8) rfl (by kernel_rfl) (by kernel_rfl) (by kernel_rfl) (by kernel_rfl) (fun _ _ _ h => h) hS0 (Or.inl ⟨by kernel_rfl, ?a8⟩) ?_
      case a8 => (intro W2 hS1; obtain ⟨s0, s1, s2, s3⟩ := hS1; go_simp; with_reducible rfl)
      refine wpX_take 9 (v := ?va9) rfl (by kernel_rfl) (by kernel_rfl) (by kernel_rfl) (by kernel_rfl) (fun _ _ _ h => h) hS0 (Or.inl ⟨by kernel_rfl, ?a9⟩) ?_
      case a9 => (intro W2 hS1; obtain ⟨s0, s1, s2, s3⟩ := hS1; go_simp; with_reducible rfl)
      refine wpX_take 10 (v := ?va10) rfl (by kernel_rfl) (by kernel_rfl) (by kernel_rfl) (by kernel_rfl) (fun _ _ _ h => h) hS0 (Or.inl ⟨by kernel_rfl, ?a10⟩) ?_
      case a10 => (intro W2 hS1; obtain ⟨s0, s1, s2, s3⟩ := hS1; go_simp; with_reducible rfl)
      refine wpX_done (by kernel_rfl) ?_ _
      go_simp
      have HF2 : Hid (Below w.heap.size w wr.drew ∧ wr.drew.heap[w.heap.size]? = _ ∧ wr.drew.heap[w.heap.size + 1]? = _) := Lib.hid ⟨HF.out.1.drew, HF.out.2.1, HF.out.2.2⟩
      clear hS0 y0 y1 r0 r1 HF
      go_wp2
      case roundEnd => exact ⟨⟨k + 1, by omega, by go_num, HF2⟩, by simp [intOf]; omega⟩
    · obtain rfl : nv = k := by omega
      go_wp2_with fail
      clear r0 r1
      have HFW := HF
      go_loopw [6] (fun x wr => ∃ k : Nat, k ≤ nt ∧ x = .int .i64 k ∧ Hid (Below w.heap.size w wr ∧ wr.heap[w.heap.size]? = some (.cells #[.slice va1 nv vc1, .slice aa1 na ac1, .slice ca1 nc cc1, .int .i64 mu, .int .i64 co, .slice ta1 nt tc1] 27 (0, 0)) ∧ wr.heap[w.heap.size + 1]? = some (.cells #[.slice va2 nv vc2, .slice aa2 na ac2, .slice ca2 nc cc2, .int .i64 mu, .int .i64 co, .slice ta2 nt tc2] 27 (0, 0)))) (fun x _ => nt - (intOf x).toNat)
      case atStart => exact ⟨0, Nat.zero_le _, rfl, HF⟩
      case round =>
        clear HF HFW
        obtain ⟨k, hk, rfl, HF⟩ := hrel
        have r0 := cell_blk (k := 5) HF.out.2.1 rfl
        have r1 := cell_blk (k := 5) HF.out.2.2 rfl
        by_cases hkn : k < nt
        · have hki : (k : Int) < (nt : Int) := by omega
          have hC1 := HT.out.1.below HF.out.1 (Nat.le_refl _)
          have hC2 := HT.out.2.1.below HF.out.1 (Nat.le_refl _)
          obtain ⟨p1, o1, hv1', y0, y1, y2, y3, ok1⟩ := hC1 k (by rw [HT.out.2.2.1]; exact hkn)
          obtain ⟨p2, o2, hv2', z0, z1, z2, z3, ok2⟩ := hC2 k (by rw [HT.out.2.2.2]; exact hkn)
          have hsm := HSM.out k hkn
          obtain ⟨c, hc⟩ : ∃ c, T1.getD k default = c := ⟨_, rfl⟩
          obtain ⟨d, hd⟩ : ∃ d, T2.getD k default = d := ⟨_, rfl⟩
          rw [hc] at y0 y1 y2 y3 ok1 hsm
          rw [hd] at z0 z1 z2 z3 ok2 hsm
          clear hC1 hC2 hc hd
          subst hv1' hv2'
          have hrd := rcode_any (w := wr.drew) (ok1.below (Below.refl _ _).drew (Nat.le_refl _)) (ok2.below (Below.refl _ _).drew (Nat.le_refl _))
          rw [decide_eq_true hsm] at hrd
          obtain ⟨cn, cl, cia, cic, ci, cla, clc, cls⟩ := c
          obtain ⟨dn, dl, dia, dic, di, dla, dlc, dls⟩ := d
          dsimp only at y0 y1 y2 y3 z0 z1 z2 z3 hrd
          have HRD := Lib.hid hrd
          clear ok1 ok2 hsm hrd
          go_wp2_with fail
          refine wp_region_x [] (fun W => W.cell? ⟨w.heap.size, 5, none⟩ = some (.slice (some ⟨p1, o1, none⟩) nt tc1) ∧ W.cell? ⟨w.heap.size + 1, 5, none⟩ = some (.slice (some ⟨p2, o2, none⟩) nt tc2) ∧ W.cell? ⟨p1, o1 + k * 4, none⟩ = some (.string cn) ∧ W.cell? ⟨p1, o1 + k * 4 + 1, none⟩ = some (.int .i64 cl) ∧ W.cell? ⟨p1, o1 + k * 4 + 2, none⟩ = some (.slice cia ci.length cic) ∧ W.cell? ⟨p1, o1 + k * 4 + 3, none⟩ = some (.slice cla cls.length clc) ∧ W.cell? ⟨p2, o2 + k * 4, none⟩ = some (.string dn) ∧ W.cell? ⟨p2, o2 + k * 4 + 1, none⟩ = some (.int .i64 dl) ∧ W.cell? ⟨p2, o2 + k * 4 + 2, none⟩ = some (.slice dia di.length dic) ∧ W.cell? ⟨p2, o2 + k * 4 + 3, none⟩ = some (.slice dla dls.length dlc)) hmx ?_
          have hS0 : wr.drew.cell? ⟨w.heap.size, 5, none⟩ = some (.slice (some ⟨p1, o1, none⟩) nt tc1) ∧ wr.drew.cell? ⟨w.heap.size + 1, 5, none⟩ = some (.slice (some ⟨p2, o2, none⟩) nt tc2) ∧ wr.drew.cell? ⟨p1, o1 + k * 4, none⟩ = some (.string cn) ∧ wr.drew.cell? ⟨p1, o1 + k * 4 + 1, none⟩ = some (.int .i64 cl) ∧ wr.drew.cell? ⟨p1, o1 + k * 4 + 2, none⟩ = some (.slice cia ci.length cic) ∧ wr.drew.cell? ⟨p1, o1 + k * 4 + 3, none⟩ = some (.slice cla cls.length clc) ∧ wr.drew.cell? ⟨p2, o2 + k * 4, none⟩ = some (.string dn) ∧ wr.drew.cell? ⟨p2, o2 + k * 4 + 1, none⟩ = some (.int .i64 dl) ∧ wr.drew.cell? ⟨p2, o2 + k * 4 + 2, none⟩ = some (.slice dia di.length dic) ∧ wr.drew.cell? ⟨p2, o2 + k * 4 + 3, none⟩ = some (.slice dla dls.length dlc) := ⟨r0, r1, y0, y1, y2, y3, z0, z1, z2, z3⟩
          have hkeep : ∀ W, Below wr.drew.heap.size wr.drew W → W.cell? ⟨w.heap.size, 5, none⟩ = some (.slice (some ⟨p1, o1, none⟩) nt tc1) ∧ W.cell? ⟨w.heap.size + 1, 5, none⟩ = some (.slice (some ⟨p2, o2, none⟩) nt tc2) ∧ W.cell? ⟨p1, o1 + k * 4, none⟩ = some (.string cn) ∧ W.cell? ⟨p1, o1 + k * 4 + 1, none⟩ = some (.int .i64 cl) ∧ W.cell? ⟨p1, o1 + k * 4 + 2, none⟩ = some (.slice cia ci.length cic) ∧ W.cell? ⟨p1, o1 + k * 4 + 3, none⟩ = some (.slice cla cls.length clc) ∧ W.cell? ⟨p2, o2 + k * 4, none⟩ = some (.string dn) ∧ W.cell? ⟨p2, o2 + k * 4 + 1, none⟩ = some (.int .i64 dl) ∧ W.cell? ⟨p2, o2 + k * 4 + 2, none⟩ = some (.slice dia di.length dic) ∧ W.cell? ⟨p2, o2 + k * 4 + 3, none⟩ = some (.slice dla dls.length dlc) := fun W hb => ⟨(hb.cell (p := ⟨w.heap.size, 5, none⟩) (World.block_lt_of_cell? wr _ r0)).trans r0, (hb.cell (p := ⟨w.heap.size + 1, 5, none⟩) (World.block_lt_of_cell? wr _ r1)).trans r1, (hb.cell (p := ⟨p1, o1 + k * 4, none⟩) (World.block_lt_of_cell? wr _ y0)).trans y0, (hb.cell (p := ⟨p1, o1 + k * 4 + 1, none⟩) (World.block_lt_of_cell? wr _ y1)).trans y1, (hb.cell (p := ⟨p1, o1 + k * 4 + 2, none⟩) (World.block_lt_of_cell? wr _ y2)).trans y2, (hb.cell (p := ⟨p1, o1 + k * 4 + 3, none⟩) (World.block_lt_of_cell? wr _ y3)).trans y3, (hb.cell (p := ⟨p2, o2 + k * 4, none⟩) (World.block_lt_of_cell? wr _ z0)).trans z0, (hb.cell (p := ⟨p2, o2 + k * 4 + 1, none⟩) (World.block_lt_of_cell? wr _ z1)).trans z1, (hb.cell (p := ⟨p2, o2 + k * 4 + 2, none⟩) (World.block_lt_of_cell? wr _ z2)).trans z2, (hb.cell (p := ⟨p2, o2 + k * 4 + 3, none⟩) (World.block_lt_of_cell? wr _ z3)).trans z3⟩
          have HKEEP := Lib.hid hkeep
          clear hkeep
          refine wpX_take 0 (v := ?vb0) rfl (by kernel_rfl) (by kernel_rfl) (by kernel_rfl) (by kernel_rfl) (fun _ _ _ h => h) hS0 (Or.inl ⟨by kernel_rfl, ?b0⟩) ?_
          case b0 => (intro W2 hS1; obtain ⟨s0, s1, s2, s3, s4, s5, s6, s7, s8, s9⟩ := hS1; go_simp; with_reducible rfl)
          refine wpX_take 1 (v := ?vb1) rfl (by kernel_rfl) (by kernel_rfl) (by kernel_rfl) (by kernel_rfl) (fun _ _ _ h => h) hS0 (Or.inl ⟨by kernel_rfl, ?b1⟩) ?_
          case b1 => (intro W2 hS1; obtain ⟨s0, s1, s2, s3, s4, s5, s6, s7, s8, s9⟩ := hS1; go_simp; with_reducible rfl)
          refine wpX_take 2 (v := ?vb2) rfl (by kernel_rfl) (by kernel_rfl) (by kernel_rfl) (by kernel_rfl) (fun _ _ _ h => h) hS0 (Or.inl ⟨by kernel_rfl, ?b2⟩) ?_
          case b2 => (intro W2 hS1; obtain ⟨s0, s1, s2, s3, s4, s5, s6, s7, s8, s9⟩ := hS1; go_simp; with_reducible rfl)
          refine wpX_take 3 (v := ?vb3) rfl (by kernel_rfl) (by kernel_rfl) (by kernel_rfl) (by kernel_rfl) (fun _ _ _ h => h) hS0 (Or.inl ⟨by kernel_rfl, ?b3⟩) ?_
          case b3 => (intro W2 hS1; obtain ⟨s0, s1, s2, s3, s4, s5, s6, s7, s8, s9⟩ := hS1; go_simp; with_reducible rfl)
          refine wpX_take 4 (v := ?vb4) rfl (by kernel_rfl) (by kernel_rfl) (by kernel_rfl) (by kernel_rfl) (fun _ _ _ h => h) hS0 (Or.inl ⟨by kernel_rfl, ?b4⟩) ?_
          case b4 => (intro W2 hS1; obtain ⟨s0, s1, s2, s3, s4, s5, s6, s7, s8, s9⟩ := hS1; go_simp; with_reducible rfl)
          refine wpX_take 5 (v := ?vb5) rfl (by kernel_rfl) (by kernel_rfl) (by kernel_rfl) (by kernel_rfl) (fun _ _ _ h => h) hS0 (Or.inl ⟨by kernel_rfl, ?b5⟩) ?_
          case b5 => (intro W2 hS1; obtain ⟨s0, s1, s2, s3, s4, s5, s6, s7, s8, s9⟩ := hS1; go_simp; with_reducible rfl)
          refine wpX_take 6 (v := ?vb6) rfl (by kernel_rfl) (by kernel_rfl) (by kernel_rfl) (by kernel_rfl) (fun _ _ _ h => h) hS0 (Or.inl ⟨by kernel_rfl, ?b6⟩) ?_
          case b6 => (intro W2 hS1; obtain ⟨s0, s1, s2, s3, s4, s5, s6, s7, s8, s9⟩ := hS1; go_simp; with_reducible rfl)
          refine wpX_take 7 (v := ?vb7) rfl (by kernel_rfl) (by kernel_rfl) (by kernel_rfl) (by kernel_rfl) (fun _ _ _ h => h) hS0 (Or.inl ⟨by kernel_rfl, ?b7⟩) ?_
          case b7 => (intro W2 hS1; obtain ⟨s0, s1, s2, s3, s4, s5, s6, s7, s8, s9⟩ := hS1; go_simp; with_reducible rfl)
          refine wpX_take 8 (v := ?vb8) rfl (by kernel_rfl) (by kernel_rfl) (by kernel_rfl) (by kernel_rfl) (fun _ _ _ h => h) hS0 (Or.inl ⟨by kernel_rfl, ?b8⟩) ?_
          case b8 => (intro W2 hS1; obtain ⟨s0, s1, s2, s3, s4, s5, s6, s7, s8, s9⟩ := hS1; go_simp; with_reducible rfl)
          refine wpX_take 9 (v := ?vb9) rfl (by kernel_rfl) (by kernel_rfl) (by kernel_rfl) (by kernel_rfl) (fun _ _ _ h => h) hS0 (Or.inl ⟨by kernel_rfl, ?b9⟩) ?_
          case b9 => (intro W2 hS1; obtain ⟨s0, s1, s2, s3, s4, s5, s6, s7, s8, s9⟩ := hS1; go_simp; with_reducible rfl)
          refine wpX_one 10 (by kernel_rfl) rfl (fun K hK => ?_)
          go_simp
          refine HRD.out.mono ?_
          rintro e w7 ⟨rfl, hb7⟩
          have hS1 := HKEEP.out w7 hb7
          have hbx : Below w.heap.size w w7 := HF.out.1.drew.trans (hb7.mono HF.out.1.size)
          have HF7 : Hid (Below w.heap.size w w7 ∧ w7.heap[w.heap.size]? = _ ∧ w7.heap[w.heap.size + 1]? = _) := Lib.hid ⟨hbx, (hb7.block w.heap.size (Array.getElem?_eq_some_iff.1 HF.out.2.1).1).trans HF.out.2.1, (hb7.block (w.heap.size + 1) (Array.getElem?_eq_some_iff.1 HF.out.2.2).1).trans HF.out.2.2⟩
          clear hb7 hbx HRD HKEEP y0 y1 y2 y3 z0 z1 z2 z3 r0 r1 HF hS0
          refine hK _ _ (fun _ => hS1) ?_
          clear hK K
          refine wpX_one 11 (by kernel_rfl) rfl (fun K hK => ?_)
          go_simp
          refine hK _ _ (fun _ => hS1) ?_
          clear hK K
          refine wpX_done (by kernel_rfl) ?_ _
          go_simp
          clear hS1
          go_wp2
          case roundEnd => exact ⟨⟨k + 1, by omega, by go_num, HF7⟩, by simp [intOf]; omega⟩
        · obtain rfl : k = nt := by omega
          go_wp2
          go_ret
          exact ⟨rfl, HF.out.1⟩
theorem natsB_inj {a b : ByteArray} (h : natsB a = natsB b) : a = b := by
  have hinj : ∀ (a b : List UInt8), a.map UInt8.toNat = b.map UInt8.toNat → a = b := by
    intro a
    induction a with
    | nil => intro b h; cases b with
      | nil => rfl
      | cons y b => simp at h
    | cons x a ih => intro b h; cases b with
      | nil => simp at h
      | cons y b =>
        simp only [List.map_cons, List.cons.injEq] at h
        rw [UInt8.toNat_inj.1 h.1, ih b h.2]
  apply ByteArray.ext
  exact Array.toList_inj.1 (hinj _ _ h)
theorem rsame_yes {w : World} {a b : ModM} (ha : ModOk w a) (hb : ModOk w b) (h : a.p = b.p) :
    Calls Tryd.prog 12 #[.agg a.cells, .agg b.cells] w fun e w' => e = .returned (.bool true) ∧ Below w.heap.size w w' := by
  obtain ⟨va1, vc1, vars1, aa1, ac1, arr1, ca1, cc1, ch1, mu1, co1, ta1, tc1, th1⟩ := a
  obtain ⟨va2, vc2, vars2, aa2, ac2, arr2, ca2, cc2, ch2, mu2, co2, ta2, tc2, th2⟩ := b
  simp only [ModM.p, ModP.mk.injEq] at h
  obtain ⟨rfl, rfl, rfl, rfl, rfl, h6⟩ := h
  have hl : th1.length = th2.length := by simpa using congrArg List.length h6
  have hs : ∀ j, j < th2.length → sameC (th1.getD j default) (th2.getD j default) := by
    intro j hj
    have h1 : (th1.map CodeM.p)[j]? = (th2.map CodeM.p)[j]? := by rw [h6]
    rw [List.getElem?_map, List.getElem?_map, List.getElem?_eq_getElem (by omega), List.getElem?_eq_getElem hj] at h1
    have h2 := Option.some.inj h1
    simp only [CodeM.p, CodeP.mk.injEq] at h2
    rw [List.getD_eq_getElem?_getD, List.getD_eq_getElem?_getD, List.getElem?_eq_getElem (by omega), List.getElem?_eq_getElem hj]
    exact ⟨natsB_inj h2.1, h2.2.1, h2.2.2.1, h2.2.2.2⟩
  have := rsame_core (T1 := th1) (T2 := th2) (vc1 := vc1) (vc2 := vc2) (ac1 := ac1) (ac2 := ac2) (cc1 := cc1) (cc2 := cc2) (tc1 := tc1) (tc2 := tc2) (mu := mu1) (co := co1) rfl rfl rfl hl rfl ha.vb ha.ab ha.cb hb.tb ha.vv hb.vv ha.av hb.av ha.cv hb.cv ha.tv hb.tv hs
  simp only [ModM.cells]
  rw [hl]
  exact this
end Go.Proofs.YtjbinejaagpleaaDoor
