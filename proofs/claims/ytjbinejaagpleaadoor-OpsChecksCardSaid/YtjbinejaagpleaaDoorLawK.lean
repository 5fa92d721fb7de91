/- The law OpsChecks. Asked: the modules lie; the tables. -/
import Derived.Test.YtjbinejaagpleaaDoorRefT
import Derived.Test.YtjbinejaagpleaaDoorRefM
import Derived.Test.YtjbinejaagpleaaDoorWorks
import Derived.Test.YtjbinejaagpleaaDoorBackA
namespace Go.Proofs.YtjbinejaagpleaaDoor
open Go.RowKit

theorem sameM_refl (a : ModM) : sameM a a := ⟨rfl, rfl, rfl, rfl, rfl, rfl, fun _ _ => ⟨rfl, rfl, rfl, rfl⟩⟩
set_option maxRecDepth 100000 in
set_option maxHeartbeats 40000000 in
theorem checks_core {w : World} {va1 aa1 ca1 ta1 va2 aa2 ca2 ta2 : Option Addr} {vc1 ac1 cc1 tc1 vc2 ac2 cc2 tc2 : Nat} {V1 V2 A1 A2 C1 C2 : List Int} {mu1 co1 mu2 co2 : Int} {T1 T2 : List CodeM} (hT : TabC w) (hP : Tab w) (hz : 1 < w.heap.size)
    (ha : ModOk w ⟨va1, vc1, V1, aa1, ac1, A1, ca1, cc1, C1, mu1, co1, ta1, tc1, T1⟩) (hb : ModOk w ⟨va2, vc2, V2, aa2, ac2, A2, ca2, cc2, C2, mu2, co2, ta2, tc2, T2⟩) :
    Calls Tryd.prog 5 #[.agg #[.slice va1 V1.length vc1, .slice aa1 A1.length ac1, .slice ca1 C1.length cc1, .int .i64 mu1, .int .i64 co1, .slice ta1 T1.length tc1], .agg #[.slice va2 V2.length vc2, .slice aa2 A2.length ac2, .slice ca2 C2.length cc2, .int .i64 mu2, .int .i64 co2, .slice ta2 T2.length tc2]] w fun e w' => e = .returned (.bool true) ∧ Below w.heap.size w w' := by
  have hB0 : Below w.heap.size w ((w.alloc (.cells #[.slice va1 V1.length vc1, .slice aa1 A1.length ac1, .slice ca1 C1.length cc1, .int .i64 mu1, .int .i64 co1, .slice ta1 T1.length tc1] 27)).alloc (.cells #[.slice va2 V2.length vc2, .slice aa2 A2.length ac2, .slice ca2 C2.length cc2, .int .i64 mu2, .int .i64 co2, .slice ta2 T2.length tc2] 27)) := ((Below.refl _ w).alloc (Nat.le_refl _) _).alloc (by simp) _
  have hx : ((w.alloc (.cells #[.slice va1 V1.length vc1, .slice aa1 A1.length ac1, .slice ca1 C1.length cc1, .int .i64 mu1, .int .i64 co1, .slice ta1 T1.length tc1] 27)).alloc (.cells #[.slice va2 V2.length vc2, .slice aa2 A2.length ac2, .slice ca2 C2.length cc2, .int .i64 mu2, .int .i64 co2, .slice ta2 T2.length tc2] 27)).heap[w.heap.size]? = some (.cells #[.slice va1 V1.length vc1, .slice aa1 A1.length ac1, .slice ca1 C1.length cc1, .int .i64 mu1, .int .i64 co1, .slice ta1 T1.length tc1] 27 (0, 0)) := (Below.heap_alloc _ _ w.heap.size (by simp)).trans (World.alloc_heap_new w _)
  have hy : ((w.alloc (.cells #[.slice va1 V1.length vc1, .slice aa1 A1.length ac1, .slice ca1 C1.length cc1, .int .i64 mu1, .int .i64 co1, .slice ta1 T1.length tc1] 27)).alloc (.cells #[.slice va2 V2.length vc2, .slice aa2 A2.length ac2, .slice ca2 C2.length cc2, .int .i64 mu2, .int .i64 co2, .slice ta2 T2.length tc2] 27)).heap[w.heap.size + 1]? = some (.cells #[.slice va2 V2.length vc2, .slice aa2 A2.length ac2, .slice ca2 C2.length cc2, .int .i64 mu2, .int .i64 co2, .slice ta2 T2.length tc2] 27 (0, 0)) := by
    have := World.alloc_heap_new (w.alloc (.cells #[.slice va1 V1.length vc1, .slice aa1 A1.length ac1, .slice ca1 C1.length cc1, .int .i64 mu1, .int .i64 co1, .slice ta1 T1.length tc1] 27)) (.cells #[.slice va2 V2.length vc2, .slice aa2 A2.length ac2, .slice ca2 C2.length cc2, .int .i64 mu2, .int .i64 co2, .slice ta2 T2.length tc2] 27)
    rwa [World.size_alloc] at this
  have HM := Lib.hid (And.intro ha hb)
  have HT := Lib.hid (And.intro hT (And.intro hP hz))
  have HB0 := Lib.hid hB0
  have HX := Lib.hid hx
  have HY := Lib.hid hy
  have f1 := few_any (ok_below ha hB0)
  simp only [ModM.cells] at f1
  have hw := fun W (h : Below w.heap.size w W) => works_any W (hT.below h hT.1) (hP.below h hz) (Nat.lt_of_lt_of_le hz h.size)
  have HW := Lib.hid hw
  clear hB0 hx hy hT hP hz ha hb hw
  have x0 := cell_blk (k := 0) HX.out rfl
  have x1 := cell_blk (k := 1) HX.out rfl
  have x2 := cell_blk (k := 2) HX.out rfl
  have x3 := cell_blk (k := 3) HX.out rfl
  have x4 := cell_blk (k := 4) HX.out rfl
  have x5 := cell_blk (k := 5) HX.out rfl
  go_enter Tryd.func5, Tryd.ntmps5
  go_wp2_with fail
  refine f1.mono ?_
  rintro e w1 ⟨⟨b1, rfl⟩, hb1⟩
  have HB1 := Lib.hid (HB0.out.trans (hb1.mono HB0.out.size))
  have HX1 := Lib.hid ((hb1.block w.heap.size (Array.getElem?_eq_some_iff.1 HX.out).1).trans HX.out)
  have HY1 := Lib.hid ((hb1.block (w.heap.size + 1) (Array.getElem?_eq_some_iff.1 HY.out).1).trans HY.out)
  clear f1 hb1 HB0 HX HY x0 x1 x2 x3 x4 x5
  cases b1 with
  | false =>
    go_wp2_with fail
    refine (HW.out _ HB1.out).mono ?_
    rintro e w4 ⟨rfl, hb4⟩
    have HB4 := Lib.hid (HB1.out.trans (hb4.mono HB1.out.size))
    clear hb4
    go_wp2
    go_ret
    exact ⟨rfl, HB4.out⟩
  | true =>
    have y0 := cell_blk (k := 0) HY1.out rfl
    have y1 := cell_blk (k := 1) HY1.out rfl
    have y2 := cell_blk (k := 2) HY1.out rfl
    have y3 := cell_blk (k := 3) HY1.out rfl
    have y4 := cell_blk (k := 4) HY1.out rfl
    have y5 := cell_blk (k := 5) HY1.out rfl
    have f2 := few_any (ok_below HM.out.2 HB1.out)
    simp only [ModM.cells] at f2
    go_wp2_with fail
    refine f2.mono ?_
    rintro e w2 ⟨⟨b2, rfl⟩, hb2⟩
    have HB2 := Lib.hid (HB1.out.trans (hb2.mono HB1.out.size))
    have HX2 := Lib.hid ((hb2.block w.heap.size (Array.getElem?_eq_some_iff.1 HX1.out).1).trans HX1.out)
    have HY2 := Lib.hid ((hb2.block (w.heap.size + 1) (Array.getElem?_eq_some_iff.1 HY1.out).1).trans HY1.out)
    clear f2 hb2 HB1 HX1 HY1 y0 y1 y2 y3 y4 y5
    cases b2 with
    | false =>
      go_wp2_with fail
      refine (HW.out _ HB2.out).mono ?_
      rintro e w4 ⟨rfl, hb4⟩
      have HB4 := Lib.hid (HB2.out.trans (hb4.mono HB2.out.size))
      clear hb4
      go_wp2
      go_ret
      exact ⟨rfl, HB4.out⟩
    | true =>
      have hkeep : ∀ W, SB w2 W → SB w2 W ∧ W.cell? ⟨w.heap.size, 0, none⟩ = some (.slice va1 V1.length vc1) ∧ W.cell? ⟨w.heap.size, 1, none⟩ = some (.slice aa1 A1.length ac1) ∧ W.cell? ⟨w.heap.size, 2, none⟩ = some (.slice ca1 C1.length cc1) ∧ W.cell? ⟨w.heap.size, 3, none⟩ = some (.int .i64 mu1) ∧ W.cell? ⟨w.heap.size, 4, none⟩ = some (.int .i64 co1) ∧ W.cell? ⟨w.heap.size, 5, none⟩ = some (.slice ta1 T1.length tc1) ∧ W.cell? ⟨w.heap.size + 1, 0, none⟩ = some (.slice va2 V2.length vc2) ∧ W.cell? ⟨w.heap.size + 1, 1, none⟩ = some (.slice aa2 A2.length ac2) ∧ W.cell? ⟨w.heap.size + 1, 2, none⟩ = some (.slice ca2 C2.length cc2) ∧ W.cell? ⟨w.heap.size + 1, 3, none⟩ = some (.int .i64 mu2) ∧ W.cell? ⟨w.heap.size + 1, 4, none⟩ = some (.int .i64 co2) ∧ W.cell? ⟨w.heap.size + 1, 5, none⟩ = some (.slice ta2 T2.length tc2) := fun W h => ⟨h, h.cell (cell_blk (k := 0) HX2.out rfl), h.cell (cell_blk (k := 1) HX2.out rfl), h.cell (cell_blk (k := 2) HX2.out rfl), h.cell (cell_blk (k := 3) HX2.out rfl), h.cell (cell_blk (k := 4) HX2.out rfl), h.cell (cell_blk (k := 5) HX2.out rfl), h.cell (cell_blk (k := 0) HY2.out rfl), h.cell (cell_blk (k := 1) HY2.out rfl), h.cell (cell_blk (k := 2) HY2.out rfl), h.cell (cell_blk (k := 3) HY2.out rfl), h.cell (cell_blk (k := 4) HY2.out rfl), h.cell (cell_blk (k := 5) HY2.out rfl)⟩
      have HK := Lib.hid hkeep
      have hbel : ∀ W, SB w2 W → Below w.heap.size w W := fun W h => HB2.out.trans (Below.mono h HB2.out.size)
      have HL := Lib.hid hbel
      clear hkeep hbel
      go_wp2_with fail
      have hS0 := HK.out _ (SB.drew (show SB w2 w2 from Below.refl _ _))
      refine wp_region_x [] (fun W => SB w2 W ∧ W.cell? ⟨w.heap.size, 0, none⟩ = some (.slice va1 V1.length vc1) ∧ W.cell? ⟨w.heap.size, 1, none⟩ = some (.slice aa1 A1.length ac1) ∧ W.cell? ⟨w.heap.size, 2, none⟩ = some (.slice ca1 C1.length cc1) ∧ W.cell? ⟨w.heap.size, 3, none⟩ = some (.int .i64 mu1) ∧ W.cell? ⟨w.heap.size, 4, none⟩ = some (.int .i64 co1) ∧ W.cell? ⟨w.heap.size, 5, none⟩ = some (.slice ta1 T1.length tc1) ∧ W.cell? ⟨w.heap.size + 1, 0, none⟩ = some (.slice va2 V2.length vc2) ∧ W.cell? ⟨w.heap.size + 1, 1, none⟩ = some (.slice aa2 A2.length ac2) ∧ W.cell? ⟨w.heap.size + 1, 2, none⟩ = some (.slice ca2 C2.length cc2) ∧ W.cell? ⟨w.heap.size + 1, 3, none⟩ = some (.int .i64 mu2) ∧ W.cell? ⟨w.heap.size + 1, 4, none⟩ = some (.int .i64 co2) ∧ W.cell? ⟨w.heap.size + 1, 5, none⟩ = some (.slice ta2 T2.length tc2)) (by kernel_rfl) ?_
      refine wpX_take 0 (v := ?v0) rfl (by kernel_rfl) (by kernel_rfl) (by kernel_rfl) (by kernel_rfl) (fun _ _ _ h => h) hS0 (Or.inl ⟨by kernel_rfl, ?h0⟩) ?_
      case h0 => (intro W1 hS1; obtain ⟨hs, s0, s1, s2, s3, s4, s5, s6, s7, s8, s9, s10, s11⟩ := hS1; go_simp; with_reducible rfl)
      refine wpX_take 3 (v := ?v3) rfl (by kernel_rfl) (by kernel_rfl) (by kernel_rfl) (by kernel_rfl) (fun _ _ _ h => h) hS0 (Or.inl ⟨by kernel_rfl, ?h3⟩) ?_
      case h3 => (intro W1 hS1; obtain ⟨hs, s0, s1, s2, s3, s4, s5, s6, s7, s8, s9, s10, s11⟩ := hS1; go_simp; with_reducible rfl)
      obtain ⟨r, hr⟩ : ∃ r, mMay ⟨va1, vc1, V1, aa1, ac1, A1, ca1, cc1, C1, mu1, co1, ta1, tc1, T1⟩ = r := ⟨_, rfl⟩
      have c1 := fun W (h : SB w2 W) => check_any ⟨va1, vc1, V1, aa1, ac1, A1, ca1, cc1, C1, mu1, co1, ta1, tc1, T1⟩ W (HT.out.1.below (HL.out _ h) HT.out.1.1) (ok_below HM.out.1 (HL.out _ h))
      have c2 := fun W (h : SB w2 W) => rcheck_any (ok_below HM.out.1 (HL.out W h))
      simp only [hr, ModM.cells, chkN] at c1 c2
      clear hr
      obtain ⟨q, hq⟩ : ∃ q : Int, (if r = true then 0 else 2) = q := ⟨_, rfl⟩
      rw [hq] at c1 c2
      clear hq
      refine wpX_one 1 (by kernel_rfl) rfl (fun K hK => ?_)
      go_simp
      refine (c1 _ hS0.1).mono ?_
      rintro e w' ⟨rfl, hb⟩
      have hS1 := HK.out _ (SB.trans hS0.1 hb)
      refine hK _ _ (fun _ => hS1) ?_
      clear hK K hS0 hb
      have hS0 := hS1
      clear hS1
      refine wpX_one 2 (by kernel_rfl) rfl (fun K hK => ?_)
      go_simp
      refine (num_any _ _).mono ?_
      rintro e w' ⟨rfl, rfl⟩
      refine hK _ _ (fun _ => hS0) ?_
      clear hK K
      refine wpX_one 4 (by kernel_rfl) rfl (fun K hK => ?_)
      go_simp
      refine (c2 _ hS0.1).mono ?_
      rintro e w' ⟨rfl, hb⟩
      have hS1 := HK.out _ (SB.trans hS0.1 hb)
      refine hK _ _ (fun _ => hS1) ?_
      clear hK K hS0 hb
      have hS0 := hS1
      clear hS1
      have hqq : (q == q) = true := by simp
      refine wpX_take 5 (v := ?v5) rfl (by kernel_rfl) (by kernel_rfl) (by kernel_rfl) (by kernel_rfl) (fun _ _ _ h => h) hS0 (Or.inl ⟨by kernel_rfl, ?h5⟩) ?_
      case h5 => (intro W1 hS1; obtain ⟨hs, s0, s1, s2, s3, s4, s5, s6, s7, s8, s9, s10, s11⟩ := hS1; go_simp; with_reducible rfl)
      refine wpX_take 6 (v := ?v6) rfl (by kernel_rfl) (by kernel_rfl) (by kernel_rfl) (by kernel_rfl) (fun _ _ _ h => h) hS0 (Or.inl ⟨by kernel_rfl, ?h6⟩) ?_
      case h6 => (intro W1 hS1; obtain ⟨hs, s0, s1, s2, s3, s4, s5, s6, s7, s8, s9, s10, s11⟩ := hS1; go_simp; with_reducible rfl)
      refine wpX_take 7 (v := ?v7) rfl (by kernel_rfl) (by kernel_rfl) (by kernel_rfl) (by kernel_rfl) (fun _ _ _ h => h) hS0 (Or.inl ⟨by kernel_rfl, ?h7⟩) ?_
      case h7 => (intro W1 hS1; obtain ⟨hs, s0, s1, s2, s3, s4, s5, s6, s7, s8, s9, s10, s11⟩ := hS1; go_simp; with_reducible rfl)
      refine wpX_take 8 (v := ?v8) rfl (by kernel_rfl) (by kernel_rfl) (by kernel_rfl) (by kernel_rfl) (fun _ _ _ h => h) hS0 (Or.inl ⟨by kernel_rfl, ?h8⟩) ?_
      case h8 => (intro W1 hS1; obtain ⟨hs, s0, s1, s2, s3, s4, s5, s6, s7, s8, s9, s10, s11⟩ := hS1; go_simp; with_reducible rfl)
      refine wpX_take 10 (v := ?v10) rfl (by kernel_rfl) (by kernel_rfl) (by kernel_rfl) (by kernel_rfl) (fun _ _ _ h => h) hS0 (Or.inl ⟨by kernel_rfl, ?h10⟩) ?_
      case h10 => (intro W1 hS1; obtain ⟨hs, s0, s1, s2, s3, s4, s5, s6, s7, s8, s9, s10, s11⟩ := hS1; go_simp; with_reducible rfl)
      refine wpX_take 11 (v := ?v11) rfl (by kernel_rfl) (by kernel_rfl) (by kernel_rfl) (by kernel_rfl) (fun _ _ _ h => h) hS0 (Or.inl ⟨by kernel_rfl, ?h11⟩) ?_
      case h11 => (intro W1 hS1; obtain ⟨hs, s0, s1, s2, s3, s4, s5, s6, s7, s8, s9, s10, s11⟩ := hS1; go_simp; with_reducible rfl)
      clear c1 c2
      obtain ⟨r, hr⟩ : ∃ r, decide (sameM ⟨va1, vc1, V1, aa1, ac1, A1, ca1, cc1, C1, mu1, co1, ta1, tc1, T1⟩ ⟨va2, vc2, V2, aa2, ac2, A2, ca2, cc2, C2, mu2, co2, ta2, tc2, T2⟩) = r := ⟨_, rfl⟩
      have c1 := fun W (h : SB w2 W) => same_any (ok_below HM.out.1 (HL.out W h)) (ok_below HM.out.2 (HL.out W h))
      have c2 := fun W (h : SB w2 W) => rsame_any (ok_below HM.out.1 (HL.out W h)) (ok_below HM.out.2 (HL.out W h))
      rw [hr] at c1 c2
      simp only [ModM.cells] at c1 c2
      clear hr
      refine wpX_one 9 (by kernel_rfl) rfl (fun K hK => ?_)
      go_simp
      refine (c1 _ hS0.1).mono ?_
      rintro e w' ⟨rfl, hb⟩
      have hS1 := HK.out _ (SB.trans hS0.1 hb)
      refine hK _ _ (fun _ => hS1) ?_
      clear hK K hS0 hb
      have hS0 := hS1
      clear hS1
      refine wpX_one 12 (by kernel_rfl) rfl (fun K hK => ?_)
      go_simp
      refine (c2 _ hS0.1).mono ?_
      rintro e w' ⟨rfl, hb⟩
      have hS1 := HK.out _ (SB.trans hS0.1 hb)
      refine hK _ _ (fun _ => hS1) ?_
      clear hK K hS0 hb
      have hS0 := hS1
      clear hS1
      have hrr : (r == r) = true := by simp
      refine wpX_take 13 (v := ?v13) rfl (by kernel_rfl) (by kernel_rfl) (by kernel_rfl) (by kernel_rfl) (fun _ _ _ h => h) hS0 (Or.inl ⟨by kernel_rfl, ?h13⟩) ?_
      case h13 => (intro W1 hS1; obtain ⟨hs, s0, s1, s2, s3, s4, s5, s6, s7, s8, s9, s10, s11⟩ := hS1; go_simp; with_reducible rfl)
      refine wpX_take 14 (v := ?v14) rfl (by kernel_rfl) (by kernel_rfl) (by kernel_rfl) (by kernel_rfl) (fun _ _ _ h => h) hS0 (Or.inl ⟨by kernel_rfl, ?h14⟩) ?_
      case h14 => (intro W1 hS1; obtain ⟨hs, s0, s1, s2, s3, s4, s5, s6, s7, s8, s9, s10, s11⟩ := hS1; go_simp; with_reducible rfl)
      refine wpX_take 15 (v := ?v15) rfl (by kernel_rfl) (by kernel_rfl) (by kernel_rfl) (by kernel_rfl) (fun _ _ _ h => h) hS0 (Or.inl ⟨by kernel_rfl, ?h15⟩) ?_
      case h15 => (intro W1 hS1; obtain ⟨hs, s0, s1, s2, s3, s4, s5, s6, s7, s8, s9, s10, s11⟩ := hS1; go_simp; with_reducible rfl)
      refine wpX_take 16 (v := ?v16) rfl (by kernel_rfl) (by kernel_rfl) (by kernel_rfl) (by kernel_rfl) (fun _ _ _ h => h) hS0 (Or.inl ⟨by kernel_rfl, ?h16⟩) ?_
      case h16 => (intro W1 hS1; obtain ⟨hs, s0, s1, s2, s3, s4, s5, s6, s7, s8, s9, s10, s11⟩ := hS1; go_simp; with_reducible rfl)
      refine wpX_take 17 (v := ?v17) rfl (by kernel_rfl) (by kernel_rfl) (by kernel_rfl) (by kernel_rfl) (fun _ _ _ h => h) hS0 (Or.inl ⟨by kernel_rfl, ?h17⟩) ?_
      case h17 => (intro W1 hS1; obtain ⟨hs, s0, s1, s2, s3, s4, s5, s6, s7, s8, s9, s10, s11⟩ := hS1; go_simp; with_reducible rfl)
      clear c1 c2
      have c1 := fun W (h : SB w2 W) => same_any (ok_below HM.out.1 (HL.out W h)) (ok_below HM.out.1 (HL.out W h))
      rw [decide_eq_true (sameM_refl _)] at c1
      simp only [ModM.cells] at c1
      refine wpX_one 18 (by kernel_rfl) rfl (fun K hK => ?_)
      go_simp
      refine (c1 _ hS0.1).mono ?_
      rintro e w' ⟨rfl, hb⟩
      have hS1 := HK.out _ (SB.trans hS0.1 hb)
      refine hK _ _ (fun _ => hS1) ?_
      clear hK K hS0 hb
      have hS0 := hS1
      clear hS1
      refine wpX_take 19 (v := ?v19) rfl (by kernel_rfl) (by kernel_rfl) (by kernel_rfl) (by kernel_rfl) (fun _ _ _ h => h) hS0 (Or.inl ⟨by kernel_rfl, ?h19⟩) ?_
      case h19 => (intro W1 hS1; obtain ⟨hs, s0, s1, s2, s3, s4, s5, s6, s7, s8, s9, s10, s11⟩ := hS1; go_simp; with_reducible rfl)
      refine wpX_take 20 (v := ?v20) rfl (by kernel_rfl) (by kernel_rfl) (by kernel_rfl) (by kernel_rfl) (fun _ _ _ h => h) hS0 (Or.inl ⟨by kernel_rfl, ?h20⟩) ?_
      case h20 => (intro W1 hS1; obtain ⟨hs, s0, s1, s2, s3, s4, s5, s6, s7, s8, s9, s10, s11⟩ := hS1; go_simp; with_reducible rfl)
      refine wpX_one 21 (by kernel_rfl) rfl (fun K hK => ?_)
      go_simp
      refine (HW.out _ (HL.out _ hS0.1)).mono ?_
      rintro e w' ⟨rfl, hb⟩
      have hS1 := HK.out _ (SB.trans hS0.1 hb)
      refine hK _ _ (fun _ => hS1) ?_
      clear hK K hS0 hb
      have hS0 := hS1
      clear hS1
      refine wpX_take 22 (v := ?v22) rfl (by kernel_rfl) (by kernel_rfl) (by kernel_rfl) (by kernel_rfl) (fun _ _ _ h => h) hS0 (Or.inl ⟨by kernel_rfl, ?h22⟩) ?_
      case h22 => (intro W1 hS1; obtain ⟨hs, s0, s1, s2, s3, s4, s5, s6, s7, s8, s9, s10, s11⟩ := hS1; go_simp; with_reducible rfl)
      refine wpX_take 23 (v := ?v23) rfl (by kernel_rfl) (by kernel_rfl) (by kernel_rfl) (by kernel_rfl) (fun _ _ _ h => h) hS0 (Or.inl ⟨by kernel_rfl, ?h23⟩) ?_
      case h23 => (intro W1 hS1; obtain ⟨hs, s0, s1, s2, s3, s4, s5, s6, s7, s8, s9, s10, s11⟩ := hS1; go_simp; with_reducible rfl)
      refine wpX_done (by kernel_rfl) ?_ _
      go_simp
      have hBf := HL.out _ hS0.1
      clear hS0
      go_wp2
      go_ret
      exact ⟨rfl, hBf⟩
theorem opsChecks_any {w : World} {a b : ModM} (hT : TabC w) (hP : Tab w) (hz : 1 < w.heap.size) (ha : ModOk w a) (hb : ModOk w b) :
    Calls Tryd.prog 5 #[.agg a.cells, .agg b.cells] w fun e w' => e = .returned (.bool true) ∧ Below w.heap.size w w' := checks_core hT hP hz ha hb
end Go.Proofs.YtjbinejaagpleaaDoor
