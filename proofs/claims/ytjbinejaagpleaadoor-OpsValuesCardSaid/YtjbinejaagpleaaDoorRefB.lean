/- The document's Same: of threads' codes. Asked: the codes lie. -/
import Derived.Test.YtjbinejaagpleaaDoorRefA
namespace Go.Proofs.YtjbinejaagpleaaDoor
open Go.RowKit

/-- Are two codes the same? -/
def sameC (c d : CodeM) : Prop := c.name = d.name ∧ c.locals = d.locals ∧ c.ins = d.ins ∧ c.lines = d.lines
instance : DecidableEq InsP := fun a b => by
  cases a; cases b
  rw [InsP.mk.injEq]
  exact inferInstance
instance (c d : CodeM) : Decidable (sameC c d) := by unfold sameC; exact inferInstance
theorem name_eq (a b : ByteArray) : (a.toList == b.toList) = decide (a = b) := by
  have h1 : a.toList = a.data.toList := ByteArray.toList_eq a
  have h2 : b.toList = b.data.toList := ByteArray.toList_eq b
  by_cases h : a = b
  · subst h
    simp
  · rw [decide_eq_false h, beq_eq_false_iff_ne, h1, h2]
    intro e
    apply h
    apply ByteArray.ext
    exact Array.toList_inj.1 e
set_option maxRecDepth 100000 in
set_option maxHeartbeats 8000000 in
theorem rcode_core {w : World} {n1 n2 : ByteArray} {lo1 lo2 : Int} {ia1 ia2 la1 la2 : Option Addr} {ic1 ic2 lc1 lc2 m1 m2 k1 k2 : Nat} {ins1 ins2 : List InsP} {ls1 ls2 : List Int}
    (hm1 : ins1.length = m1) (hm2 : ins2.length = m2) (hk1 : ls1.length = k1) (hk2 : ls2.length = k2) (b1 : m1 ≤ 281474976710656) (_b2 : m2 ≤ 281474976710656) (b3 : k1 ≤ 281474976710656) (b4 : k2 ≤ 281474976710656)
    (h1 : Inss w ia1 ins1) (h2 : Inss w ia2 ins2) (h3 : Ints w la1 ls1) (h4 : Ints w la2 ls2) :
    Calls Tryd.prog 34 #[.agg #[.string n1, .int .i64 lo1, .slice ia1 m1 ic1, .slice la1 k1 lc1], .agg #[.string n2, .int .i64 lo2, .slice ia2 m2 ic2, .slice la2 k2 lc2]] w fun e w' => e = .returned (.bool (decide (n1 = n2 ∧ lo1 = lo2 ∧ ins1 = ins2 ∧ ls1 = ls2))) ∧ Below w.heap.size w w' := by
  have hmx : Tryd.prog.follows .mixedOrders = true := by kernel_rfl
  have hB0 : Below w.heap.size w ((w.alloc (.cells #[.string n1, .int .i64 lo1, .slice ia1 m1 ic1, .slice la1 k1 lc1] 51)).alloc (.cells #[.string n2, .int .i64 lo2, .slice ia2 m2 ic2, .slice la2 k2 lc2] 51)) := ((Below.refl _ w).alloc (Nat.le_refl _) _).alloc (by simp) _
  have hx : ((w.alloc (.cells #[.string n1, .int .i64 lo1, .slice ia1 m1 ic1, .slice la1 k1 lc1] 51)).alloc (.cells #[.string n2, .int .i64 lo2, .slice ia2 m2 ic2, .slice la2 k2 lc2] 51)).heap[w.heap.size]? = some (.cells #[.string n1, .int .i64 lo1, .slice ia1 m1 ic1, .slice la1 k1 lc1] 51 (0, 0)) := (Below.heap_alloc _ _ w.heap.size (by simp)).trans (World.alloc_heap_new w _)
  have hy : ((w.alloc (.cells #[.string n1, .int .i64 lo1, .slice ia1 m1 ic1, .slice la1 k1 lc1] 51)).alloc (.cells #[.string n2, .int .i64 lo2, .slice ia2 m2 ic2, .slice la2 k2 lc2] 51)).heap[w.heap.size + 1]? = some (.cells #[.string n2, .int .i64 lo2, .slice ia2 m2 ic2, .slice la2 k2 lc2] 51 (0, 0)) := by
    have := World.alloc_heap_new (w.alloc (.cells #[.string n1, .int .i64 lo1, .slice ia1 m1 ic1, .slice la1 k1 lc1] 51)) (.cells #[.string n2, .int .i64 lo2, .slice ia2 m2 ic2, .slice la2 k2 lc2] 51)
    rwa [World.size_alloc] at this
  have hne := name_eq n1 n2
  have HB0 := Lib.hid hB0
  by_cases hn : n1 = n2
  · have hnb : (n1.toList == n2.toList) = true := by rw [hne]; exact decide_eq_true hn
    by_cases hlo : lo1 = lo2
    · have hlb : (lo1 != lo2) = false := by rw [bne_eq_false_iff_eq]; exact hlo
      by_cases hmm : m1 = m2
      · subst hmm
        have hmb : ((m1 : Int) != (m1 : Int)) = false := by simp
        have hri := rints_any (w := ((w.alloc (.cells #[.string n1, .int .i64 lo1, .slice ia1 m1 ic1, .slice la1 k1 lc1] 51)).alloc (.cells #[.string n2, .int .i64 lo2, .slice ia2 m1 ic2, .slice la2 k2 lc2] 51))) (c := lc1) (c' := lc2) hk1 hk2 b3 b4 (h3.below hB0 (Nat.le_refl _)) (h4.below hB0 (Nat.le_refl _))
        by_cases hls : ls1 = ls2
        · rw [decide_eq_true hls] at hri
          have HM := Lib.hid (And.intro hm1 hm2)
          have HI1 := Lib.hid h1
          have HI2 := Lib.hid h2
          have HE := Lib.hid (And.intro hn (And.intro hlo hls))
          have HX := Lib.hid hx
          have HY := Lib.hid hy
          clear hm1 hm2 h1 h2 hn hlo hls hx hy hne hB0 h3 h4 hk1 hk2
          go_enter Tryd.func34, Tryd.ntmps34
          go_wp2_with fail
          refine hri.mono ?_
          rintro e w1 ⟨rfl, hb1⟩
          have hbA : Below w.heap.size w w1 := HB0.out.trans (hb1.mono HB0.out.size)
          have hx1 := (hb1.block w.heap.size (Array.getElem?_eq_some_iff.1 HX.out).1).trans HX.out
          have hy1 := (hb1.block (w.heap.size + 1) (Array.getElem?_eq_some_iff.1 HY.out).1).trans HY.out
          have HF : Hid (Below w.heap.size w w1 ∧ w1.heap[w.heap.size]? = some (.cells #[.string n1, .int .i64 lo1, .slice ia1 m1 ic1, .slice la1 k1 lc1] 51 (0, 0)) ∧ w1.heap[w.heap.size + 1]? = some (.cells #[.string n2, .int .i64 lo2, .slice ia2 m1 ic2, .slice la2 k2 lc2] 51 (0, 0))) := Lib.hid ⟨hbA, hx1, hy1⟩
          clear hri hb1 hbA hx1 hy1 HX HY HB0
          go_wp2_with fail
          go_loopw [5] (fun x wr => ∃ k : Nat, k ≤ m1 ∧ x = .int .i64 k ∧ Hid (∀ j, j < k → ins1.getD j default = ins2.getD j default) ∧ Hid (Below w.heap.size w wr ∧ wr.heap[w.heap.size]? = some (.cells #[.string n1, .int .i64 lo1, .slice ia1 m1 ic1, .slice la1 k1 lc1] 51 (0, 0)) ∧ wr.heap[w.heap.size + 1]? = some (.cells #[.string n2, .int .i64 lo2, .slice ia2 m1 ic2, .slice la2 k2 lc2] 51 (0, 0)))) (fun x _ => m1 - (intOf x).toNat)
          case atStart => exact ⟨0, Nat.zero_le _, rfl, Lib.hid (fun j hj => by omega), HF⟩
          case round =>
            clear HF
            obtain ⟨k, hk, rfl, HJ, HF⟩ := hrel
            have r0 := cell_blk (k := 2) HF.out.2.1 rfl
            have r1 := cell_blk (k := 2) HF.out.2.2 rfl
            by_cases hkn : k < m1
            · have hki : (k : Int) < (m1 : Int) := by omega
              obtain ⟨p1, o1, rfl, y0, y1, y2, y3⟩ := (HI1.out.below HF.out.1 (Nat.le_refl _)) k (by rw [HM.out.1]; exact hkn)
              obtain ⟨p2, o2, rfl, z0, z1, z2, z3⟩ := (HI2.out.below HF.out.1 (Nat.le_refl _)) k (by rw [HM.out.2]; exact hkn)
              obtain ⟨x, hx⟩ : ∃ x, ins1.getD k default = x := ⟨_, rfl⟩
              obtain ⟨y, hy⟩ : ∃ y, ins2.getD k default = y := ⟨_, rfl⟩
              rw [hx] at y0 y1 y2 y3
              rw [hy] at z0 z1 z2 z3
              have HX := Lib.hid hx
              have HY := Lib.hid hy
              obtain ⟨xc, xa, xb, xn⟩ := x
              obtain ⟨yc, ya, yb, yn⟩ := y
              dsimp only at y0 y1 y2 y3 z0 z1 z2 z3
              clear hx hy
              go_wp2_with fail
              refine wp_region_x [] (fun W => W.cell? ⟨w.heap.size, 2, none⟩ = some (.slice (some ⟨p1, o1, none⟩) m1 ic1) ∧ W.cell? ⟨w.heap.size + 1, 2, none⟩ = some (.slice (some ⟨p2, o2, none⟩) m1 ic2) ∧ W.cell? ⟨p1, o1 + k * 4, none⟩ = some (.int .i64 xc) ∧ W.cell? ⟨p1, o1 + k * 4 + 1, none⟩ = some (.int .i64 xa) ∧ W.cell? ⟨p1, o1 + k * 4 + 2, none⟩ = some (.int .i64 xb) ∧ W.cell? ⟨p1, o1 + k * 4 + 3, none⟩ = some (.int .i64 xn) ∧
                W.cell? ⟨p2, o2 + k * 4, none⟩ = some (.int .i64 yc) ∧ W.cell? ⟨p2, o2 + k * 4 + 1, none⟩ = some (.int .i64 ya) ∧ W.cell? ⟨p2, o2 + k * 4 + 2, none⟩ = some (.int .i64 yb) ∧ W.cell? ⟨p2, o2 + k * 4 + 3, none⟩ = some (.int .i64 yn)) hmx ?_
              have hS0 := And.intro (show wr.drew.cell? ⟨w.heap.size, 2, none⟩ = some (.slice (some ⟨p1, o1, none⟩) m1 ic1) from r0) (And.intro (show wr.drew.cell? ⟨w.heap.size + 1, 2, none⟩ = some (.slice (some ⟨p2, o2, none⟩) m1 ic2) from r1) (And.intro (show wr.drew.cell? ⟨p1, o1 + k * 4, none⟩ = some (.int .i64 xc) from y0) (And.intro (show wr.drew.cell? ⟨p1, o1 + k * 4 + 1, none⟩ = some (.int .i64 xa) from y1) (And.intro (show wr.drew.cell? ⟨p1, o1 + k * 4 + 2, none⟩ = some (.int .i64 xb) from y2) (And.intro (show wr.drew.cell? ⟨p1, o1 + k * 4 + 3, none⟩ = some (.int .i64 xn) from y3)
                (And.intro (show wr.drew.cell? ⟨p2, o2 + k * 4, none⟩ = some (.int .i64 yc) from z0) (And.intro (show wr.drew.cell? ⟨p2, o2 + k * 4 + 1, none⟩ = some (.int .i64 ya) from z1) (And.intro (show wr.drew.cell? ⟨p2, o2 + k * 4 + 2, none⟩ = some (.int .i64 yb) from z2) (show wr.drew.cell? ⟨p2, o2 + k * 4 + 3, none⟩ = some (.int .i64 yn) from z3)))))))))
              refine wpX_take 0 (v := ?va0) rfl (by kernel_rfl) (by kernel_rfl) (by kernel_rfl) (by kernel_rfl) (fun _ _ _ h => h) hS0 (Or.inl ⟨by kernel_rfl, ?a0⟩) ?_
              case a0 => (intro W2 hS1; obtain ⟨s0, s1, s2, s3, s4, s5, s6, s7, s8, s9⟩ := hS1; go_simp; with_reducible rfl)
              refine wpX_take 1 (v := ?va1) rfl (by kernel_rfl) (by kernel_rfl) (by kernel_rfl) (by kernel_rfl) (fun _ _ _ h => h) hS0 (Or.inl ⟨by kernel_rfl, ?a1⟩) ?_
              case a1 => (intro W2 hS1; obtain ⟨s0, s1, s2, s3, s4, s5, s6, s7, s8, s9⟩ := hS1; go_simp; with_reducible rfl)
              refine wpX_take 2 (v := ?va2) rfl (by kernel_rfl) (by kernel_rfl) (by kernel_rfl) (by kernel_rfl) (fun _ _ _ h => h) hS0 (Or.inl ⟨by kernel_rfl, ?a2⟩) ?_
              case a2 => (intro W2 hS1; obtain ⟨s0, s1, s2, s3, s4, s5, s6, s7, s8, s9⟩ := hS1; go_simp; with_reducible rfl)
              refine wpX_take 3 (v := ?va3) rfl (by kernel_rfl) (by kernel_rfl) (by kernel_rfl) (by kernel_rfl) (fun _ _ _ h => h) hS0 (Or.inl ⟨by kernel_rfl, ?a3⟩) ?_
              case a3 => (intro W2 hS1; obtain ⟨s0, s1, s2, s3, s4, s5, s6, s7, s8, s9⟩ := hS1; go_simp; with_reducible rfl)
              refine wpX_take 4 (v := ?va4) rfl (by kernel_rfl) (by kernel_rfl) (by kernel_rfl) (by kernel_rfl) (fun _ _ _ h => h) hS0 (Or.inl ⟨by kernel_rfl, ?a4⟩) ?_
              case a4 => (intro W2 hS1; obtain ⟨s0, s1, s2, s3, s4, s5, s6, s7, s8, s9⟩ := hS1; go_simp; with_reducible rfl)
              refine wpX_take 5 (v := ?va5) rfl (by kernel_rfl) (by kernel_rfl) (by kernel_rfl) (by kernel_rfl) (fun _ _ _ h => h) hS0 (Or.inl ⟨by kernel_rfl, ?a5⟩) ?_
              case a5 => (intro W2 hS1; obtain ⟨s0, s1, s2, s3, s4, s5, s6, s7, s8, s9⟩ := hS1; go_simp; with_reducible rfl)
              refine wpX_take 6 (v := ?va6) rfl (by kernel_rfl) (by kernel_rfl) (by kernel_rfl) (by kernel_rfl) (fun _ _ _ h => h) hS0 (Or.inl ⟨by kernel_rfl, ?a6⟩) ?_
              case a6 => (intro W2 hS1; obtain ⟨s0, s1, s2, s3, s4, s5, s6, s7, s8, s9⟩ := hS1; go_simp; with_reducible rfl)
              refine wpX_take 7 (v := ?va7) rfl (by kernel_rfl) (by kernel_rfl) (by kernel_rfl) (by kernel_rfl) (fun _ _ _ h => h) hS0 (Or.inl ⟨by kernel_rfl, ?a7⟩) ?_
              case a7 => (intro W2 hS1; obtain ⟨s0, s1, s2, s3, s4, s5, s6, s7, s8, s9⟩ := hS1; go_simp; with_reducible rfl)
              refine wpX_take 8 (v := ?va8) rfl (by kernel_rfl) (by kernel_rfl) (by kernel_rfl) (by kernel_rfl) (fun _ _ _ h => h) hS0 (Or.inl ⟨by kernel_rfl, ?a8⟩) ?_
              case a8 => (intro W2 hS1; obtain ⟨s0, s1, s2, s3, s4, s5, s6, s7, s8, s9⟩ := hS1; go_simp; with_reducible rfl)
              refine wpX_take 9 (v := ?va9) rfl (by kernel_rfl) (by kernel_rfl) (by kernel_rfl) (by kernel_rfl) (fun _ _ _ h => h) hS0 (Or.inl ⟨by kernel_rfl, ?a9⟩) ?_
              case a9 => (intro W2 hS1; obtain ⟨s0, s1, s2, s3, s4, s5, s6, s7, s8, s9⟩ := hS1; go_simp; with_reducible rfl)
              obtain ⟨T, hTT⟩ : ∃ T : Bool, T = decide (¬ (xc = yc ∧ xa = ya ∧ xb = yb ∧ xn = yn)) := ⟨_, rfl⟩
              have HTT := Lib.hid hTT
              clear hTT
              refine wpX_take 10 (v := .bool T) rfl (by kernel_rfl) (by kernel_rfl) (by kernel_rfl) (by kernel_rfl) (fun _ _ _ h => h) hS0 (Or.inl ⟨by kernel_rfl, ?a10⟩) ?_
              case a10 =>
                intro W2 hS1
                have hTT := HTT.out
                go_simp
                by_cases e1 : xc = yc <;> by_cases e2 : xa = ya <;> by_cases e3 : xb = yb <;> by_cases e4 : xn = yn <;> simp [e1, e2, e3, e4, hTT]
              refine wpX_done (by kernel_rfl) ?_ _
              go_simp
              have HF2 : Hid (Below w.heap.size w wr.drew ∧ wr.drew.heap[w.heap.size]? = some (.cells #[.string n1, .int .i64 lo1, .slice (some ⟨p1, o1, none⟩) m1 ic1, .slice la1 k1 lc1] 51 (0, 0)) ∧ wr.drew.heap[w.heap.size + 1]? = some (.cells #[.string n2, .int .i64 lo2, .slice (some ⟨p2, o2, none⟩) m1 ic2, .slice la2 k2 lc2] 51 (0, 0))) := Lib.hid ⟨HF.out.1.drew, HF.out.2.1, HF.out.2.2⟩
              clear hS0 y0 y1 y2 y3 z0 z1 z2 z3 r0 r1 HF
              generalize wr.drew = W5 at *
              by_cases hxy : xc = yc ∧ xa = ya ∧ xb = yb ∧ xn = yn
              · have hT0 : T = false := by rw [HTT.out]; exact decide_eq_false (fun h => h hxy)
                obtain ⟨rfl, rfl, rfl, rfl⟩ := hxy
                subst hT0
                clear HTT
                go_wp2
                case roundEnd =>
                  refine ⟨⟨k + 1, by omega, by go_num, Lib.hid (fun j hj => ?_), HF2⟩, by simp [intOf]; omega⟩
                  rcases Nat.lt_or_ge j k with h | h
                  · exact HJ.out j h
                  · obtain rfl : j = k := by omega
                    rw [HX.out, HY.out]
              · have hT0 : T = true := by rw [HTT.out]; exact decide_eq_true hxy
                have HXY := Lib.hid hxy
                subst hT0
                clear hxy HTT
                go_wp2
                go_ret
                refine ⟨?_, HF2.out.1⟩
                rw [decide_eq_false]
                · rfl
                · rintro ⟨-, -, e, -⟩
                  rw [e, HY.out] at HX
                  have := HX.out
                  simp only [InsP.mk.injEq] at this
                  exact HXY.out ⟨this.1.symm, this.2.1.symm, this.2.2.1.symm, this.2.2.2.symm⟩
            · obtain rfl : k = m1 := by omega
              go_wp2
              go_ret
              refine ⟨?_, HF.out.1⟩
              rw [decide_eq_true]
              · rfl
              · exact ⟨HE.out.1, HE.out.2.1, getD_ext (d := default) (HM.out.1.trans HM.out.2.symm) (fun j hj => HJ.out j (by rw [← HM.out.1]; exact hj)), HE.out.2.2⟩
        · rw [decide_eq_false hls] at hri
          have HLS := Lib.hid hls
          clear hm1 hm2 h1 h2 hn hlo hls hx hy hne hB0 h3 h4 hk1 hk2
          go_enter Tryd.func34, Tryd.ntmps34
          go_wp2_with fail
          refine hri.mono ?_
          rintro e w1 ⟨rfl, hb1⟩
          have HBA := Lib.hid (HB0.out.trans (hb1.mono HB0.out.size))
          clear hri hb1
          go_wp2
          go_ret
          refine ⟨?_, HBA.out⟩
          rw [decide_eq_false (fun h => HLS.out h.2.2.2)]
          rfl
      · have hmb : ((m1 : Int) != (m2 : Int)) = true := by rw [bne_iff_ne]; omega
        have HLS : Hid (ins1 ≠ ins2) := Lib.hid (fun e => hmm (by rw [← hm1, ← hm2, e]))
        clear hm1 hm2 h1 h2 hn hlo hmm hx hy hne hB0 h3 h4 hk1 hk2
        go_enter Tryd.func34, Tryd.ntmps34
        go_wp2
        go_ret
        refine ⟨?_, HB0.out⟩
        rw [decide_eq_false (fun h => HLS.out h.2.2.1)]
        rfl
    · have hlb : (lo1 != lo2) = true := by rw [bne_iff_ne]; exact hlo
      have HLS := Lib.hid hlo
      clear hm1 hm2 h1 h2 hn hlo hx hy hne hB0 h3 h4 hk1 hk2
      go_enter Tryd.func34, Tryd.ntmps34
      go_wp2
      go_ret
      refine ⟨?_, HB0.out⟩
      rw [decide_eq_false (fun h => HLS.out h.2.1)]
      rfl
  · have hnb : (n1.toList == n2.toList) = false := by rw [hne]; exact decide_eq_false hn
    have HLS := Lib.hid hn
    clear hm1 hm2 h1 h2 hn hx hy hne hB0 h3 h4 hk1 hk2
    go_enter Tryd.func34, Tryd.ntmps34
    go_wp2
    go_ret
    refine ⟨?_, HB0.out⟩
    rw [decide_eq_false (fun h => HLS.out h.1)]
    rfl
theorem rcode_any {w : World} {c d : CodeM} (hc : CodeOk w c) (hd : CodeOk w d) :
    Calls Tryd.prog 34 #[.agg #[.string c.name, .int .i64 c.locals, .slice c.ia c.ins.length c.icap, .slice c.la c.lines.length c.lcap], .agg #[.string d.name, .int .i64 d.locals, .slice d.ia d.ins.length d.icap, .slice d.la d.lines.length d.lcap]] w fun e w' => e = .returned (.bool (decide (sameC c d))) ∧ Below w.heap.size w w' :=
  rcode_core rfl rfl rfl rfl hc.ib hd.ib hc.lb hd.lb hc.ii hd.ii hc.ll hd.ll
end Go.Proofs.YtjbinejaagpleaaDoor
