/- The law OpsValues. Asked: the lists lie; the tables. -/
import Derived.Test.YtjbinejaagpleaaDoorRefE
import Derived.Test.YtjbinejaagpleaaDoorRefM
import Derived.Test.YtjbinejaagpleaaDoorRefO
import Derived.Test.YtjbinejaagpleaaDoorWorks
import Derived.Test.YtjbinejaagpleaaDoorBackA
namespace Go.Proofs.YtjbinejaagpleaaDoor
open Go.RowKit

theorem same_of_p {a b : ModM} (h : a.p = b.p) : sameM a b := by
  obtain ⟨va1, vc1, vars1, aa1, ac1, arr1, ca1, cc1, ch1, mu1, co1, ta1, tc1, th1⟩ := a
  obtain ⟨va2, vc2, vars2, aa2, ac2, arr2, ca2, cc2, ch2, mu2, co2, ta2, tc2, th2⟩ := b
  simp only [ModM.p, ModP.mk.injEq] at h
  obtain ⟨rfl, rfl, rfl, rfl, rfl, h6⟩ := h
  have hl : th1.length = th2.length := by simpa using congrArg List.length h6
  refine ⟨rfl, rfl, rfl, rfl, rfl, hl, fun j hj => ?_⟩
  simp only at hj
  have h1 : (th1.map CodeM.p)[j]? = (th2.map CodeM.p)[j]? := by rw [h6]
  rw [List.getElem?_map, List.getElem?_map, List.getElem?_eq_getElem (by omega), List.getElem?_eq_getElem hj] at h1
  have h2 := Option.some.inj h1
  simp only [CodeM.p, CodeP.mk.injEq] at h2
  simp only
  rw [List.getD_eq_getElem?_getD, List.getD_eq_getElem?_getD, List.getElem?_eq_getElem (by omega), List.getElem?_eq_getElem hj]
  exact ⟨natsB_inj h2.1, h2.2.1, h2.2.2.1, h2.2.2.2⟩
set_option maxRecDepth 100000 in
set_option maxHeartbeats 40000000 in
theorem values_core {w : World} {va aa ca : Option Addr} {vc ac cc nv na nc : Nat} {V A C : List Int} {mu co : Int} (hT : TabC w) (hP : Tab w) (hz : 1 < w.heap.size)
    (hv : Ints w va V) (ha : Ints w aa A) (hc : Ints w ca C) (hnv : V.length = nv) (hna : A.length = na) (hnc : C.length = nc) :
    Calls Tryd.prog 3 #[.slice va nv vc, .slice aa na ac, .slice ca nc cc, .int .i64 mu, .int .i64 co] w fun e w' => e = .returned (.bool true) ∧ Below w.heap.size w w' := by
  have hw := fun W (h : Below w.heap.size w W) => works_any W (hT.below h hT.1) (hP.below h hz) (Nat.lt_of_lt_of_le hz h.size)
  have HW := Lib.hid hw
  have HT := Lib.hid (And.intro hT (And.intro hP hz))
  have HV := Lib.hid (And.intro hv hnv)
  have HA := Lib.hid (And.intro ha hna)
  have HC := Lib.hid (And.intro hc hnc)
  clear hw hT hP hz hv ha hc hnv hna hnc
  by_cases h1 : 100 < (nv : Int)
  · skip
    go_enter Tryd.func3, Tryd.ntmps3
    go_wp2_with fail
    refine (HW.out _ (show Below w.heap.size w w from Below.refl _ w)).mono ?_
    rintro e w4 ⟨rfl, hb4⟩
    have HB4 := Lib.hid (Below.trans (show Below w.heap.size w w from Below.refl _ w) (hb4.mono (Below.size (show Below w.heap.size w w from Below.refl _ w))))
    clear hb4
    go_wp2
    go_ret
    exact ⟨rfl, HB4.out⟩
  by_cases h2 : 100 < (na : Int)
  · skip
    go_enter Tryd.func3, Tryd.ntmps3
    go_wp2_with fail
    refine (HW.out _ (show Below w.heap.size w w from Below.refl _ w)).mono ?_
    rintro e w4 ⟨rfl, hb4⟩
    have HB4 := Lib.hid (Below.trans (show Below w.heap.size w w from Below.refl _ w) (hb4.mono (Below.size (show Below w.heap.size w w from Below.refl _ w))))
    clear hb4
    go_wp2
    go_ret
    exact ⟨rfl, HB4.out⟩
  by_cases h3 : 100 < (nc : Int)
  · skip
    go_enter Tryd.func3, Tryd.ntmps3
    go_wp2_with fail
    refine (HW.out _ (show Below w.heap.size w w from Below.refl _ w)).mono ?_
    rintro e w4 ⟨rfl, hb4⟩
    have HB4 := Lib.hid (Below.trans (show Below w.heap.size w w from Below.refl _ w) (hb4.mono (Below.size (show Below w.heap.size w w from Below.refl _ w))))
    clear hb4
    go_wp2
    go_ret
    exact ⟨rfl, HB4.out⟩
  have hB0 : Below w.heap.size w (w.alloc (.cells #[.slice va nv vc, .slice aa na ac, .slice ca nc cc, .int .i64 mu, .int .i64 co, .slice none 0 0] 27)) := (Below.refl _ _).alloc (Nat.le_refl _) _
  have hX0 : (w.alloc (.cells #[.slice va nv vc, .slice aa na ac, .slice ca nc cc, .int .i64 mu, .int .i64 co, .slice none 0 0] 27)).heap[w.heap.size]? = some (.cells #[.slice va nv vc, .slice aa na ac, .slice ca nc cc, .int .i64 mu, .int .i64 co, .slice none 0 0] 27 (0, 0)) := World.alloc_heap_new _ _
  obtain ⟨W0, hW0⟩ : ∃ W0, w.alloc (.cells #[.slice va nv vc, .slice aa na ac, .slice ca nc cc, .int .i64 mu, .int .i64 co, .slice none 0 0] 27) = W0 := ⟨_, rfl⟩
  rw [hW0] at hB0 hX0
  have HW0 := Lib.hid hW0
  have hok : ∀ W, Below w.heap.size w W → ModOk W ⟨va, vc, V, aa, ac, A, ca, cc, C, mu, co, none, 0, []⟩ := fun W hb => ⟨HV.out.1.below hb (Nat.le_refl _), HA.out.1.below hb (Nat.le_refl _), HC.out.1.below hb (Nat.le_refl _), fun i hi => absurd hi (Nat.not_lt_zero i), by rw [HV.out.2]; omega, by rw [HA.out.2]; omega, by rw [HC.out.2]; omega, Nat.zero_le _⟩
  have HOK := Lib.hid hok
  have ce := encode_any ⟨va, vc, V, aa, ac, A, ca, cc, C, mu, co, none, 0, []⟩ W0 (HT.out.1.below hB0 HT.out.1.1) (hok _ hB0) (fun c hc => by cases hc)
  dsimp only [List.length_nil] at ce
  rw [HV.out.2, HA.out.2, HC.out.2] at ce
  have HB0 := Lib.hid hB0
  have HX0 := Lib.hid hX0
  clear hW0 hok hB0
  have x0 := cell_blk (k := 0) hX0 rfl
  have x1 := cell_blk (k := 1) hX0 rfl
  have x2 := cell_blk (k := 2) hX0 rfl
  have x3 := cell_blk (k := 3) hX0 rfl
  have x4 := cell_blk (k := 4) hX0 rfl
  have x5 := cell_blk (k := 5) hX0 rfl
  clear hX0
  go_enter Tryd.func3, Tryd.ntmps3
  go_wp2_with fail
  rw [HW0.out]
  go_wp2_with fail
  refine ce.mono ?_
  rintro e w1 ⟨hb1, he⟩
  clear ce x0 x1 x2 x3 x4 x5
  have hB1 := HB0.out.trans (hb1.mono HB0.out.size)
  have hx1 := (hb1.block _ (Array.getElem?_eq_some_iff.1 HX0.out).1).trans HX0.out
  have ck := rcheck_any (HOK.out w1 hB1)
  simp only [ModM.cells, List.length_nil] at ck
  rw [HV.out.2, HA.out.2, HC.out.2] at ck
  obtain ⟨r, hr⟩ : ∃ r, mMay ⟨va, vc, V, aa, ac, A, ca, cc, C, mu, co, none, 0, []⟩ = r := ⟨_, rfl⟩
  rw [hr] at he ck
  have x0 := cell_blk (k := 0) hx1 rfl
  have x1 := cell_blk (k := 1) hx1 rfl
  have x2 := cell_blk (k := 2) hx1 rfl
  have x3 := cell_blk (k := 3) hx1 rfl
  have x4 := cell_blk (k := 4) hx1 rfl
  have x5 := cell_blk (k := 5) hx1 rfl
  have HB1 := Lib.hid hB1
  have HX1 := Lib.hid hx1
  have HR := Lib.hid hr
  clear hb1 hB1 hx1 hr HB0 HX0
  cases r with
  | false =>
    rw [if_neg (by decide)] at he
    subst he
    unfold chkN at ck
    rw [if_neg (by decide)] at ck
    go_wp2_with fail
    refine ck.mono ?_
    rintro e w2 ⟨rfl, hb2⟩
    have HB2 := Lib.hid (HB1.out.trans (hb2.mono HB1.out.size))
    clear ck hb2 x0 x1 x2 x3 x4 x5 HX1 HB1
    go_wp2_with fail
    refine (num_any 2 _).mono ?_
    rintro e w3 ⟨rfl, rfl⟩
    go_wp2_with fail
    refine (HW.out _ HB2.out).mono ?_
    rintro e w4 ⟨rfl, hb4⟩
    have HB4 := Lib.hid (Below.trans HB2.out (hb4.mono (Below.size HB2.out)))
    clear hb4
    go_wp2
    go_ret
    exact ⟨rfl, HB4.out⟩
  | true =>
    rw [if_pos rfl] at he
    obtain ⟨v, rfl, hv⟩ := he
    unfold chkN at ck
    rw [if_pos rfl] at ck
    have hmP := HR.out
    rw [mMay_p] at hmP
    have hsf := seal_fwd hmP
    have hsm := smb_seal (smb_modM _ HR.out)
    have hsm0 := smb_modM _ HR.out
    have hlen := mod_len hmP
    have hl8 : 8 ≤ (sealB (modP (ModM.p ⟨va, vc, V, aa, ac, A, ca, cc, C, mu, co, none, 0, []⟩))).length := by
      have := hsf.1
      unfold sealed at this
      simp only [Bool.and_eq_true, decide_eq_true_eq] at this
      exact this.1
    have hl9 : (sealB (modP (ModM.p ⟨va, vc, V, aa, ac, A, ca, cc, C, mu, co, none, 0, []⟩))).length ≤ 281474976710656 := by rw [seal_len]; omega
    obtain ⟨g, cap, rfl, hg, hgw, hcap, hcv, hgb⟩ := own_bytes hv (by omega) rfl
    have hm4 := HR.out
    simp only [mMay, vOk, aOk, cOk, Bool.and_eq_true, decide_eq_true_eq] at hm4
    obtain ⟨hmu, hco, ⟨hv6, hva⟩, ⟨ha6, haa⟩, ⟨hc6, hca⟩, _⟩ := hm4
    have hmv : ∀ x ∈ V, -2147483648 ≤ x ∧ x ≤ 2147483647 := fun x hx => by
      have := List.all_eq_true.1 hva x hx
      simpa only [vMay, decide_eq_true_eq] using this
    have hma : ∀ x ∈ A, 0 ≤ x ∧ x ≤ 256 := fun x hx => by
      have := List.all_eq_true.1 haa x hx
      simpa only [bMay, decide_eq_true_eq] using this
    have hmc : ∀ x ∈ C, 1 ≤ x ∧ x ≤ 16 := fun x hx => by
      have := List.all_eq_true.1 hca x hx
      simpa only [bMay, decide_eq_true_eq] using this
    simp only [bMay, decide_eq_true_eq] at hmu hco
    have hen := fun W (hb : Below w.heap.size w W) => mencode_core (w := W) (vc := vc) (ac := ac) (cc := cc) (HV.out.1.below hb (Nat.le_refl _)) (HA.out.1.below hb (Nat.le_refl _)) (HC.out.1.below hb (Nat.le_refl _)) HV.out.2 HA.out.2 HC.out.2 (by rw [← HV.out.2]; exact hv6) (by rw [← HA.out.2]; exact ha6) (by rw [← HC.out.2]; exact hc6) hmv hma hmc hmu hco hsm0
    have hsf2 : rdMod ((sealB (modP (ModM.p ⟨va, vc, V, aa, ac, A, ca, cc, C, mu, co, none, 0, []⟩))).take ((sealB (modP (ModM.p ⟨va, vc, V, aa, ac, A, ca, cc, C, mu, co, none, 0, []⟩))).length - 4)) = some (ModM.p ⟨va, vc, V, aa, ac, A, ca, cc, C, mu, co, none, 0, []⟩) := hsf.2
    have hen2 : ∀ W, Below w.heap.size w W → Calls Tryd.prog 11 #[.agg #[.slice va nv vc, .slice aa na ac, .slice ca nc cc, .int .i64 mu, .int .i64 co, .slice none 0 0]] W fun e w' => Below W.heap.size W w' ∧ ∃ v n, e = .returned v ∧ (sealB (modP (ModM.p ⟨va, vc, V, aa, ac, A, ca, cc, C, mu, co, none, 0, []⟩))).length = n ∧ w'.ownsRow W.heap.size 5 1 v n (u8s (sealB (modP (ModM.p ⟨va, vc, V, aa, ac, A, ca, cc, C, mu, co, none, 0, []⟩)))) := hen
    obtain ⟨L, hL⟩ : ∃ L, (sealB (modP (ModM.p ⟨va, vc, V, aa, ac, A, ca, cc, C, mu, co, none, 0, []⟩))) = L := ⟨_, rfl⟩
    rw [hL] at hv hsf hsf2 hsm hl8 hl9 hcv hen2 hcap ⊢
    obtain ⟨N, hN⟩ : ∃ N, L.length = N := ⟨_, rfl⟩
    rw [hN] at hl8 hl9 hcap hcv ⊢
    have HEN := Lib.hid hen2
    have HN := Lib.hid hN
    have HL := Lib.hid (And.intro hsf.1 (And.intro hsf2 (And.intro hsm (And.intro hl8 (And.intro hl9 (And.intro hcap (And.intro hcv hgw)))))))
    clear hv hmP hsf hsf2 hsm hsm0 hlen hl8 hl9 hcap hcv hg hgw hgb hv6 hva ha6 haa hc6 hca hmv hma hmc hmu hco hen hen2 hL hN
    go_wp2_with fail
    refine ck.mono ?_
    rintro e w2 ⟨rfl, hb2⟩
    have hB2 := HB1.out.trans (hb2.mono HB1.out.size)
    have hx2 := (hb2.block _ (Array.getElem?_eq_some_iff.1 HX1.out).1).trans HX1.out
    have hc2 : ∀ i, i < N → w2.cell? ⟨g, 0 + i, none⟩ = some (.int .u8 ((L.getD i 0 : Nat) : Int)) := fun i hi => (hb2.cell (p := ⟨g, 0 + i, none⟩) HL.out.2.2.2.2.2.2.2).trans (HL.out.2.2.2.2.2.2.1 i hi)
    have hg2 : g < w2.heap.size := Nat.lt_of_lt_of_le HL.out.2.2.2.2.2.2.2 hb2.size
    have cd := dec_long HN.out HL.out.2.2.2.1 HL.out.2.2.2.2.2.1 HL.out.2.2.2.2.1 HL.out.2.2.1 hc2 (HT.out.1.below hB2 HT.out.1.1)
    have HX2 := Lib.hid hx2
    have HB2 := Lib.hid hB2
    have HC2 := Lib.hid hc2
    have HG2 := Lib.hid hg2
    clear ck hb2 x0 x1 x2 x3 x4 x5 HX1 HB1 hx2 hB2 hc2 hg2
    go_wp2_with fail
    refine cd.mono ?_
    rintro e w3 ⟨hb3, he⟩
    rw [if_pos HL.out.1, HL.out.2.1] at he
    obtain ⟨⟨va2, vc2, V2, aa2, ac2, A2, ca2, cc2, C2, mu2, co2, ta2, tc2, T2⟩, rfl, hm2, ho2⟩ := he
    have hA3 : Below w3.heap.size w3 (w3.alloc (.cells #[.slice va2 V2.length vc2, .slice aa2 A2.length ac2, .slice ca2 C2.length cc2, .int .i64 mu2, .int .i64 co2, .slice ta2 T2.length tc2] 27)) := (Below.refl _ _).alloc (Nat.le_refl _) _
    have hY : (w3.alloc (.cells #[.slice va2 V2.length vc2, .slice aa2 A2.length ac2, .slice ca2 C2.length cc2, .int .i64 mu2, .int .i64 co2, .slice ta2 T2.length tc2] 27)).heap[w3.heap.size]? = some (.cells #[.slice va2 V2.length vc2, .slice aa2 A2.length ac2, .slice ca2 C2.length cc2, .int .i64 mu2, .int .i64 co2, .slice ta2 T2.length tc2] 27 (0, 0)) := World.alloc_heap_new _ _
    have hB3 := HB2.out.trans (hb3.mono HB2.out.size)
    have hB4 := hB3.trans (hA3.mono hB3.size)
    have hX3 := (hb3.block _ (Array.getElem?_eq_some_iff.1 HX2.out).1).trans HX2.out
    have hX4 := (hA3.block _ (Array.getElem?_eq_some_iff.1 hX3).1).trans hX3
    have hc4 : ∀ i, i < N → (w3.alloc (.cells #[.slice va2 V2.length vc2, .slice aa2 A2.length ac2, .slice ca2 C2.length cc2, .int .i64 mu2, .int .i64 co2, .slice ta2 T2.length tc2] 27)).cell? ⟨g, 0 + i, none⟩ = some (.int .u8 ((L.getD i 0 : Nat) : Int)) := fun i hi => ((hb3.trans (hA3.mono hb3.size)).cell (p := ⟨g, 0 + i, none⟩) HG2.out).trans (HC2.out i hi)
    have hg4 := Nat.lt_of_lt_of_le HG2.out (hb3.trans (hA3.mono hb3.size)).size
    have ho4 := ho2.below hA3
    have HO4 := Lib.hid (And.intro ho4 (And.intro hm2 (And.intro hc4 hg4)))
    have HB4 := Lib.hid hB4
    have HX4 := Lib.hid hX4
    have HY4 := Lib.hid hY
    clear cd hb3 hA3 hY hB3 hB4 hX3 hX4 hc4 hg4 ho2 ho4 hm2 HC2 HG2 HB2 HX2
    simp only [ModM.cells]
    go_wp2_with fail
    obtain ⟨q, hq⟩ : ∃ q, w3.heap.size = q := ⟨_, rfl⟩
    rw [hq] at HY4 ⊢
    clear hq
    generalize w3.alloc (.cells #[.slice va2 V2.length vc2, .slice aa2 A2.length ac2, .slice ca2 C2.length cc2, .int .i64 mu2, .int .i64 co2, .slice ta2 T2.length tc2] 27) = w5 at *
    have hkeep : ∀ W, SB w5 W → SB w5 W ∧ W.cell? ⟨w.heap.size, 0, none⟩ = some (.slice va nv vc) ∧ W.cell? ⟨w.heap.size, 1, none⟩ = some (.slice aa na ac) ∧ W.cell? ⟨w.heap.size, 2, none⟩ = some (.slice ca nc cc) ∧ W.cell? ⟨w.heap.size, 3, none⟩ = some (.int .i64 mu) ∧ W.cell? ⟨w.heap.size, 4, none⟩ = some (.int .i64 co) ∧ W.cell? ⟨w.heap.size, 5, none⟩ = some (.slice none 0 0) ∧ W.cell? ⟨q, 0, none⟩ = some (.slice va2 V2.length vc2) ∧ W.cell? ⟨q, 1, none⟩ = some (.slice aa2 A2.length ac2) ∧ W.cell? ⟨q, 2, none⟩ = some (.slice ca2 C2.length cc2) ∧ W.cell? ⟨q, 3, none⟩ = some (.int .i64 mu2) ∧ W.cell? ⟨q, 4, none⟩ = some (.int .i64 co2) ∧ W.cell? ⟨q, 5, none⟩ = some (.slice ta2 T2.length tc2) := fun W h => ⟨h, h.cell (cell_blk (k := 0) HX4.out rfl), h.cell (cell_blk (k := 1) HX4.out rfl), h.cell (cell_blk (k := 2) HX4.out rfl), h.cell (cell_blk (k := 3) HX4.out rfl), h.cell (cell_blk (k := 4) HX4.out rfl), h.cell (cell_blk (k := 5) HX4.out rfl), h.cell (cell_blk (k := 0) HY4.out rfl), h.cell (cell_blk (k := 1) HY4.out rfl), h.cell (cell_blk (k := 2) HY4.out rfl), h.cell (cell_blk (k := 3) HY4.out rfl), h.cell (cell_blk (k := 4) HY4.out rfl), h.cell (cell_blk (k := 5) HY4.out rfl)⟩
    have HK := Lib.hid hkeep
    have hbel : ∀ W, SB w5 W → Below w.heap.size w W := fun W h => HB4.out.trans (Below.mono h HB4.out.size)
    have HLB := Lib.hid hbel
    obtain ⟨SS, hSS⟩ : ∃ SS, strOf (L.take N) = SS := ⟨_, rfl⟩
    have hconv : ∀ W, SB w5 W → (convert 28 9 (.slice (some ⟨g, 0, none⟩) N cap)).run Tryd.prog W = .ok (.string SS) W := fun W h => by
      have := conv_str (W := W) (g := g) (off := 0) (n := N) (cap := cap) (l := L) (Nat.le_of_eq HN.out.symm) (fun i hi => h.cell (HO4.out.2.2.1 i hi))
      rwa [hSS] at this
    have HCV := Lib.hid hconv
    have HSS := Lib.hid hSS
    clear hkeep hbel hconv hSS
    have hw0 : IntKind.i64.wrap 0 = 0 := by decide
    have hss : (SS.toList == SS.toList) = true := by simp
    have hS0 := HK.out _ (SB.drew (show SB w5 w5 from Below.refl _ _))
    refine wp_region_x [] (fun W => SB w5 W ∧ W.cell? ⟨w.heap.size, 0, none⟩ = some (.slice va nv vc) ∧ W.cell? ⟨w.heap.size, 1, none⟩ = some (.slice aa na ac) ∧ W.cell? ⟨w.heap.size, 2, none⟩ = some (.slice ca nc cc) ∧ W.cell? ⟨w.heap.size, 3, none⟩ = some (.int .i64 mu) ∧ W.cell? ⟨w.heap.size, 4, none⟩ = some (.int .i64 co) ∧ W.cell? ⟨w.heap.size, 5, none⟩ = some (.slice none 0 0) ∧ W.cell? ⟨q, 0, none⟩ = some (.slice va2 V2.length vc2) ∧ W.cell? ⟨q, 1, none⟩ = some (.slice aa2 A2.length ac2) ∧ W.cell? ⟨q, 2, none⟩ = some (.slice ca2 C2.length cc2) ∧ W.cell? ⟨q, 3, none⟩ = some (.int .i64 mu2) ∧ W.cell? ⟨q, 4, none⟩ = some (.int .i64 co2) ∧ W.cell? ⟨q, 5, none⟩ = some (.slice ta2 T2.length tc2)) (by kernel_rfl) ?_
    refine wpX_take 0 (v := ?v0) rfl (by kernel_rfl) (by kernel_rfl) (by kernel_rfl) (by kernel_rfl) (fun _ _ _ h => h) hS0 (Or.inl ⟨by kernel_rfl, ?h0⟩) ?_
    case h0 => (intro W1 hS1; obtain ⟨hs, s0, s1, s2, s3, s4, s5, s6, s7, s8, s9, s10, s11⟩ := hS1; go_simp; with_reducible rfl)
    refine wpX_take 2 (v := ?v2) rfl (by kernel_rfl) (by kernel_rfl) (by kernel_rfl) (by kernel_rfl) (fun _ _ _ h => h) hS0 (Or.inl ⟨by kernel_rfl, ?h2⟩) ?_
    case h2 => (intro W1 hS1; obtain ⟨hs, s0, s1, s2, s3, s4, s5, s6, s7, s8, s9, s10, s11⟩ := hS1; go_simp; with_reducible rfl)
    refine wpX_one 1 (by kernel_rfl) rfl (fun K hK => ?_)
    go_simp
    refine (num_any 0 _).mono ?_
    rintro e w' ⟨rfl, rfl⟩
    refine hK _ _ (fun _ => hS0) ?_
    clear hK K
    refine wpX_one 3 (by kernel_rfl) rfl (fun K hK => ?_)
    go_simp
    refine (num_any 0 _).mono ?_
    rintro e w' ⟨rfl, rfl⟩
    refine hK _ _ (fun _ => hS0) ?_
    clear hK K
    refine wpX_take 4 (v := ?v4) rfl (by kernel_rfl) (by kernel_rfl) (by kernel_rfl) (by kernel_rfl) (fun _ _ _ h => h) hS0 (Or.inl ⟨by kernel_rfl, ?h4⟩) ?_
    case h4 => (intro W1 hS1; obtain ⟨hs, s0, s1, s2, s3, s4, s5, s6, s7, s8, s9, s10, s11⟩ := hS1; go_simp; with_reducible rfl)
    refine wpX_take 5 (v := ?v5) rfl (by kernel_rfl) (by kernel_rfl) (by kernel_rfl) (by kernel_rfl) (fun _ _ _ h => h) hS0 (Or.inl ⟨by kernel_rfl, ?h5⟩) ?_
    case h5 => (intro W1 hS1; obtain ⟨hs, s0, s1, s2, s3, s4, s5, s6, s7, s8, s9, s10, s11⟩ := hS1; go_simp; with_reducible rfl)
    refine wpX_take 6 (v := ?v6) rfl (by kernel_rfl) (by kernel_rfl) (by kernel_rfl) (by kernel_rfl) (fun _ _ _ h => h) hS0 (Or.inl ⟨by kernel_rfl, ?h6⟩) ?_
    case h6 => (intro W1 hS1; obtain ⟨hs, s0, s1, s2, s3, s4, s5, s6, s7, s8, s9, s10, s11⟩ := hS1; go_simp; with_reducible rfl)
    refine wpX_take 7 (v := ?v7) rfl (by kernel_rfl) (by kernel_rfl) (by kernel_rfl) (by kernel_rfl) (fun _ _ _ h => h) hS0 (Or.inl ⟨by kernel_rfl, ?h7⟩) ?_
    case h7 => (intro W1 hS1; obtain ⟨hs, s0, s1, s2, s3, s4, s5, s6, s7, s8, s9, s10, s11⟩ := hS1; go_simp; with_reducible rfl)
    refine wpX_take 8 (v := ?v8) rfl (by kernel_rfl) (by kernel_rfl) (by kernel_rfl) (by kernel_rfl) (fun _ _ _ h => h) hS0 (Or.inl ⟨by kernel_rfl, ?h8⟩) ?_
    case h8 => (intro W1 hS1; obtain ⟨hs, s0, s1, s2, s3, s4, s5, s6, s7, s8, s9, s10, s11⟩ := hS1; have hcv := HCV.out W1 hs; go_simp; with_reducible rfl)
    refine wpX_take 9 (v := ?v9) rfl (by kernel_rfl) (by kernel_rfl) (by kernel_rfl) (by kernel_rfl) (fun _ _ _ h => h) hS0 (Or.inl ⟨by kernel_rfl, ?h9⟩) ?_
    case h9 => (intro W1 hS1; obtain ⟨hs, s0, s1, s2, s3, s4, s5, s6, s7, s8, s9, s10, s11⟩ := hS1; go_simp; with_reducible rfl)
    refine wpX_one 10 (by kernel_rfl) rfl (fun K hK => ?_)
    go_simp
    refine (HEN.out _ (HLB.out _ hS0.1)).mono ?_
    rintro e w6 ⟨hb, v, n, rfl, hln, hv⟩
    obtain ⟨g2, cap2, rfl, _, hgw2, _, hc6, _⟩ := own_bytes hv (by rw [← hln]; have := HL.out.2.2.2.1; have := HN.out; omega) hln
    have hnN : n = N := hln.symm.trans HN.out
    subst hnN
    have hS1 := HK.out _ (SB.trans hS0.1 hb)
    have cv2 := conv_str (W := w6) (g := g2) (off := 0) (n := n) (cap := cap2) (l := L) (Nat.le_of_eq hln.symm) hc6
    rw [HSS.out] at cv2
    refine hK _ _ (fun _ => hS1) ?_
    clear hK K hS0 hb hv hc6
    have hS0 := hS1
    clear hS1
    refine wpX_one 11 (by kernel_rfl) rfl (fun K hK => ?_)
    go_simp
    refine hK _ _ (fun _ => hS0) ?_
    clear hK K cv2
    refine wpX_take 12 (v := ?v12) rfl (by kernel_rfl) (by kernel_rfl) (by kernel_rfl) (by kernel_rfl) (fun _ _ _ h => h) hS0 (Or.inl ⟨by kernel_rfl, ?h12⟩) ?_
    case h12 => (intro W1 hS1; obtain ⟨hs, s0, s1, s2, s3, s4, s5, s6, s7, s8, s9, s10, s11⟩ := hS1; go_simp; with_reducible rfl)
    refine wpX_take 13 (v := ?v13) rfl (by kernel_rfl) (by kernel_rfl) (by kernel_rfl) (by kernel_rfl) (fun _ _ _ h => h) hS0 (Or.inl ⟨by kernel_rfl, ?h13⟩) ?_
    case h13 => (intro W1 hS1; obtain ⟨hs, s0, s1, s2, s3, s4, s5, s6, s7, s8, s9, s10, s11⟩ := hS1; go_simp; with_reducible rfl)
    refine wpX_take 14 (v := ?v14) rfl (by kernel_rfl) (by kernel_rfl) (by kernel_rfl) (by kernel_rfl) (fun _ _ _ h => h) hS0 (Or.inl ⟨by kernel_rfl, ?h14⟩) ?_
    case h14 => (intro W1 hS1; obtain ⟨hs, s0, s1, s2, s3, s4, s5, s6, s7, s8, s9, s10, s11⟩ := hS1; go_simp; with_reducible rfl)
    refine wpX_take 15 (v := ?v15) rfl (by kernel_rfl) (by kernel_rfl) (by kernel_rfl) (by kernel_rfl) (fun _ _ _ h => h) hS0 (Or.inl ⟨by kernel_rfl, ?h15⟩) ?_
    case h15 => (intro W1 hS1; obtain ⟨hs, s0, s1, s2, s3, s4, s5, s6, s7, s8, s9, s10, s11⟩ := hS1; go_simp; with_reducible rfl)
    refine wpX_take 16 (v := ?v16) rfl (by kernel_rfl) (by kernel_rfl) (by kernel_rfl) (by kernel_rfl) (fun _ _ _ h => h) hS0 (Or.inl ⟨by kernel_rfl, ?h16⟩) ?_
    case h16 => (intro W1 hS1; obtain ⟨hs, s0, s1, s2, s3, s4, s5, s6, s7, s8, s9, s10, s11⟩ := hS1; go_simp; with_reducible rfl)
    have c1 := fun W (h : SB w5 W) => rsame_any (w := W) (a := ⟨va2, vc2, V2, aa2, ac2, A2, ca2, cc2, C2, mu2, co2, ta2, tc2, T2⟩) (b := ⟨va, vc, V, aa, ac, A, ca, cc, C, mu, co, none, 0, []⟩) (HO4.out.1.below h).ok (HOK.out W (HLB.out W h))
    rw [decide_eq_true (same_of_p HO4.out.2.1)] at c1
    simp only [ModM.cells, List.length_nil] at c1
    rw [HV.out.2, HA.out.2, HC.out.2] at c1
    refine wpX_one 17 (by kernel_rfl) rfl (fun K hK => ?_)
    go_simp
    refine (c1 _ hS0.1).mono ?_
    rintro e w' ⟨rfl, hb⟩
    have hS1 := HK.out _ (SB.trans hS0.1 hb)
    refine hK _ _ (fun _ => hS1) ?_
    clear hK K hS0 hb
    have hS0 := hS1
    clear hS1
    refine wpX_take 18 (v := ?v18) rfl (by kernel_rfl) (by kernel_rfl) (by kernel_rfl) (by kernel_rfl) (fun _ _ _ h => h) hS0 (Or.inl ⟨by kernel_rfl, ?h18⟩) ?_
    case h18 => (intro W1 hS1; obtain ⟨hs, s0, s1, s2, s3, s4, s5, s6, s7, s8, s9, s10, s11⟩ := hS1; go_simp; with_reducible rfl)
    refine wpX_take 19 (v := ?v19) rfl (by kernel_rfl) (by kernel_rfl) (by kernel_rfl) (by kernel_rfl) (fun _ _ _ h => h) hS0 (Or.inl ⟨by kernel_rfl, ?h19⟩) ?_
    case h19 => (intro W1 hS1; obtain ⟨hs, s0, s1, s2, s3, s4, s5, s6, s7, s8, s9, s10, s11⟩ := hS1; go_simp; with_reducible rfl)
    refine wpX_one 20 (by kernel_rfl) rfl (fun K hK => ?_)
    go_simp
    refine (HW.out _ (HLB.out _ hS0.1)).mono ?_
    rintro e w' ⟨rfl, hb⟩
    have hS1 := HK.out _ (SB.trans hS0.1 hb)
    refine hK _ _ (fun _ => hS1) ?_
    clear hK K hS0 hb
    have hS0 := hS1
    clear hS1
    refine wpX_take 21 (v := ?v21) rfl (by kernel_rfl) (by kernel_rfl) (by kernel_rfl) (by kernel_rfl) (fun _ _ _ h => h) hS0 (Or.inl ⟨by kernel_rfl, ?h21⟩) ?_
    case h21 => (intro W1 hS1; obtain ⟨hs, s0, s1, s2, s3, s4, s5, s6, s7, s8, s9, s10, s11⟩ := hS1; go_simp; with_reducible rfl)
    refine wpX_take 22 (v := ?v22) rfl (by kernel_rfl) (by kernel_rfl) (by kernel_rfl) (by kernel_rfl) (fun _ _ _ h => h) hS0 (Or.inl ⟨by kernel_rfl, ?h22⟩) ?_
    case h22 => (intro W1 hS1; obtain ⟨hs, s0, s1, s2, s3, s4, s5, s6, s7, s8, s9, s10, s11⟩ := hS1; go_simp; with_reducible rfl)
    refine wpX_done (by kernel_rfl) ?_ _
    go_simp
    have hBf := HLB.out _ hS0.1
    clear hS0
    go_wp2
    go_ret
    exact ⟨rfl, hBf⟩
end Go.Proofs.YtjbinejaagpleaaDoor
