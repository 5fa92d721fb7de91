/- The document's within, Uses, Name, Right. No condition but what is said. -/
import Derived.Test.YtjbinejaagpleaaDoorChk
import Derived.Test.YtjbinejaagpleaaDoorWrT
import Derived.OwnWalk
namespace Go.Proofs.YtjbinejaagpleaaDoor
open Go.RowKit

theorem rwithin_any (x a b : Int) (w : World) : Calls Tryd.prog 26 #[.int .i64 x, .int .i64 a, .int .i64 b] w fun e w' => e = .returned (.bool (bMay a b x)) ∧ w = w' := by
  by_cases h1 : a ≤ x
  · by_cases h2 : x ≤ b
    · rw [show bMay a b x = true from decide_eq_true ⟨h1, h2⟩]
      go_enter Tryd.func26, Tryd.ntmps26
      go_wp2
      go_ret
      exact ⟨rfl, rfl⟩
    · rw [show bMay a b x = false from decide_eq_false (fun h => h2 h.2)]
      go_enter Tryd.func26, Tryd.ntmps26
      go_wp2
      go_ret
      exact ⟨rfl, rfl⟩
  · rw [show bMay a b x = false from decide_eq_false (fun h => h1 h.1)]
    go_enter Tryd.func26, Tryd.ntmps26
    go_wp2
    go_ret
    exact ⟨rfl, rfl⟩

theorem wt_list : ∀ j : Fin 35, (((decide ((2 ≤ (j : Nat) ∧ (j : Nat) ≤ 7) ∨ (19 ≤ (j : Nat) ∧ (j : Nat) ≤ 21) ∨ (23 ≤ (j : Nat) ∧ (j : Nat) ≤ 31))) = (wtL.getD j 0 == 1 || wtL.getD j 0 == 2)) ∧ (decide ((j : Nat) = 26) = (wtL.getD j 0 == 2)) ∧ (decide ((j : Nat) = 1) = (wtL.getD j 0 == 3))) := by decide +kernel
theorem fA_is (c : Int) : fA c = decide ((2 ≤ c ∧ c ≤ 7) ∨ (19 ≤ c ∧ c ≤ 21) ∨ (23 ≤ c ∧ c ≤ 31)) := by
  unfold fA wt
  by_cases h : isC c = true
  · rw [if_pos h]
    simp only [isC, decide_eq_true_eq] at h
    have := (wt_list ⟨c.toNat, by omega⟩).1
    simp only at this
    rw [← this]
    exact decide_eq_decide.2 (by omega)
  · rw [if_neg h]
    simp only [isC, decide_eq_true_eq] at h
    rw [decide_eq_false (by omega)]
    rfl
theorem fB_is (c : Int) : fB c = decide (c = 26) := by
  unfold fB wt
  by_cases h : isC c = true
  · rw [if_pos h]
    simp only [isC, decide_eq_true_eq] at h
    have := (wt_list ⟨c.toNat, by omega⟩).2.1
    simp only at this
    rw [← this]
    exact decide_eq_decide.2 (by omega)
  · rw [if_neg h]
    simp only [isC, decide_eq_true_eq] at h
    rw [decide_eq_false (by omega)]
    rfl
theorem fN_is (c : Int) : fN c = decide (c = 1) := by
  unfold fN wt
  by_cases h : isC c = true
  · rw [if_pos h]
    simp only [isC, decide_eq_true_eq] at h
    have := (wt_list ⟨c.toNat, by omega⟩).2.2
    simp only at this
    rw [← this]
    exact decide_eq_decide.2 (by omega)
  · rw [if_neg h]
    simp only [isC, decide_eq_true_eq] at h
    rw [decide_eq_false (by omega)]
    rfl
set_option maxRecDepth 100000 in
set_option maxHeartbeats 4000000 in
theorem uses_any (c : Int) (w : World) : Calls Tryd.prog 63 #[.int .i64 c] w fun e w' => e = .returned (.tuple #[.bool (fA c), .bool (fB c), .bool (fN c)]) ∧ w = w' := by
  rw [fB_is, fN_is, show (decide (c = 26)) = (c == 26) from rfl, show (decide (c = 1)) = (c == 1) from rfl]
  obtain ⟨xb, hxb⟩ : ∃ x, (c == 26) = x := ⟨_, rfl⟩
  obtain ⟨xn, hxn⟩ : ∃ x, (c == 1) = x := ⟨_, rfl⟩
  rw [hxb, hxn]
  by_cases h1 : 2 ≤ c
  · by_cases h2 : c ≤ 7
    · rw [fA_is, decide_eq_true (.inl ⟨h1, h2⟩)]
      go_enter Tryd.func63, Tryd.ntmps63
      go_wp2
      go_ret3
      exact ⟨rfl, rfl⟩
    · by_cases h3 : 19 ≤ c
      · by_cases h4 : c ≤ 21
        · rw [fA_is, decide_eq_true (.inr (.inl ⟨h3, h4⟩))]
          go_enter Tryd.func63, Tryd.ntmps63
          go_wp2
          go_ret3
          exact ⟨rfl, rfl⟩
        · by_cases h5 : 23 ≤ c
          · by_cases h6 : c ≤ 31
            · rw [fA_is, decide_eq_true (.inr (.inr ⟨h5, h6⟩))]
              go_enter Tryd.func63, Tryd.ntmps63
              go_wp2
              go_ret3
              exact ⟨rfl, rfl⟩
            · rw [fA_is, decide_eq_false (by omega)]
              go_enter Tryd.func63, Tryd.ntmps63
              go_wp2
              go_ret3
              exact ⟨rfl, rfl⟩
          · rw [fA_is, decide_eq_false (by omega)]
            go_enter Tryd.func63, Tryd.ntmps63
            go_wp2
            go_ret3
            exact ⟨rfl, rfl⟩
      · have h5 : ¬ 23 ≤ c := by omega
        rw [fA_is, decide_eq_false (by omega)]
        go_enter Tryd.func63, Tryd.ntmps63
        go_wp2
        go_ret3
        exact ⟨rfl, rfl⟩
  · have h3 : ¬ 19 ≤ c := by omega
    have h5 : ¬ 23 ≤ c := by omega
    rw [fA_is, decide_eq_false (by omega)]
    go_enter Tryd.func63, Tryd.ntmps63
    go_wp2
    go_ret3
    exact ⟨rfl, rfl⟩
def nmV : List Value := nmL.map Value.string
set_option maxRecDepth 100000 in
set_option maxHeartbeats 4000000 in
theorem rname2_any (c : Int) (w : World) : Calls Tryd.prog 76 #[.int .i64 c] w fun e w' => e = .returned (.string (nm c)) ∧ Below w.heap.size w w' := by
  by_cases h1 : c < 1
  · rw [show nm c = ⟨#[]⟩ by unfold nm isC; rw [decide_eq_false (by omega)]; rfl]
    go_enter Tryd.func76, Tryd.ntmps76
    go_wp2
    go_ret
    exact ⟨rfl, Below.refl _ _⟩
  · by_cases h2 : 34 < c
    · rw [show nm c = ⟨#[]⟩ by unfold nm isC; rw [decide_eq_false (by omega)]; rfl]
      go_enter Tryd.func76, Tryd.ntmps76
      go_wp2
      go_ret
      exact ⟨rfl, Below.refl _ _⟩
    · obtain ⟨k, rfl⟩ : ∃ k : Nat, c = k := ⟨c.toNat, by omega⟩
      have hk : k < 35 := by omega
      rw [show nm (k : Int) = nmL.getD k ⟨#[]⟩ by unfold nm isC; rw [decide_eq_true (by omega), if_pos rfl]; rfl]
      have hl : nmV[k]? = some (.string (nmL.getD k ⟨#[]⟩)) := by
        unfold nmV
        rw [List.getElem?_map, List.getD_eq_getElem?_getD, List.getElem?_eq_getElem (show k < nmL.length from hk)]
        rfl
      have hcell := cells_new w nmV 9 k _ hl
      have hB : Below w.heap.size w (w.alloc (.cells nmV.toArray 9)) := (Below.refl _ _).alloc (Nat.le_refl _) _
      have hb0 : (1 : Int) ≤ k := by omega
      have hb1 : (k : Int) ≤ 34 := by omega
      go_enter Tryd.func76, Tryd.ntmps76
      go_wp2_with fail
      go_ret
      refine ⟨congrArg Ending.returned ?_, hB⟩
      have h := (List.getElem?_eq_some_iff.1 hl).2
      exact h.trans (congrArg Value.string (List.getD_eq_getElem?_getD ..))
theorem vMay_b (n : Int) : vMay n = bMay (-2147483648) 2147483647 n := rfl
theorem nm_list : ∀ j : Fin 35, (nmL.getD j ⟨#[]⟩).toList.isEmpty = decide ((j : Nat) = 0) := by decide +kernel
theorem nm_empty (c : Int) : isC c = !(nm c).toList.isEmpty := by
  unfold nm
  by_cases h : isC c = true
  · rw [if_pos h, h]
    simp only [isC, decide_eq_true_eq] at h
    have := nm_list ⟨c.toNat, by omega⟩
    simp only at this
    rw [this, decide_eq_false (by omega)]
    rfl
  · rw [if_neg h]
    simp only [Bool.not_eq_true] at h
    rw [h]
    have := nm_list ⟨0, by omega⟩
    exact this ▸ rfl
set_option maxRecDepth 100000 in
set_option maxHeartbeats 16000000 in
theorem right_any (i : InsP) (w : World) : Calls Tryd.prog 53 #[.agg #[.int .i64 i.c, .int .i64 i.a, .int .i64 i.b, .int .i64 i.n]] w fun e w' => e = .returned (.bool (iMay i)) ∧ Below w.heap.size w w' := by
  obtain ⟨c, a, b, n⟩ := i
  obtain ⟨R, hR⟩ : ∃ R, iMay ⟨c, a, b, n⟩ = R := ⟨_, rfl⟩
  rw [hR]
  have HR := Lib.hid hR
  simp only
  have hBx : Below w.heap.size w (w.alloc (.cells #[.int .i64 c, .int .i64 a, .int .i64 b, .int .i64 n] 48)) := (Below.refl _ _).alloc (Nat.le_refl _) _
  have hX : (w.alloc (.cells #[.int .i64 c, .int .i64 a, .int .i64 b, .int .i64 n] 48)).heap[w.heap.size]? = some (.cells #[.int .i64 c, .int .i64 a, .int .i64 b, .int .i64 n] 48 (0, 0)) := World.alloc_heap_new _ _
  have cu := uses_any c (w.alloc (.cells #[.int .i64 c, .int .i64 a, .int .i64 b, .int .i64 n] 48))
  have cn := rname2_any c (w.alloc (.cells #[.int .i64 c, .int .i64 a, .int .i64 b, .int .i64 n] 48))
  have HE := Lib.hid (nm_empty c)
  have HF := Lib.hid (f_cases c)
  obtain ⟨N, hN⟩ : ∃ x, nm c = x := ⟨_, rfl⟩
  obtain ⟨xa, hxa⟩ : ∃ x, fA c = x := ⟨_, rfl⟩
  obtain ⟨xb, hxb⟩ : ∃ x, fB c = x := ⟨_, rfl⟩
  obtain ⟨xn, hxn⟩ : ∃ x, fN c = x := ⟨_, rfl⟩
  rw [hN] at cn HE
  rw [hxa, hxb, hxn] at cu HF
  obtain ⟨e0, he0⟩ : ∃ x, N.toList.isEmpty = x := ⟨_, rfl⟩
  rw [he0] at HE
  have HX := Lib.hid (And.intro hxa (And.intro hxb hxn))
  have HB := Lib.hid hBx
  have HH := Lib.hid hX
  clear hR hxa hxb hxn hN hBx hX
  go_enter Tryd.func53, Tryd.ntmps53
  go_wp2_with fail
  refine cu.mono ?_
  rintro e w1 ⟨rfl, rfl⟩
  go_wp2_with fail
  refine cn.mono ?_
  rintro e w1 ⟨rfl, hb1⟩
  have hx1 := (hb1.block _ (Array.getElem?_eq_some_iff.1 HH.out).1).trans HH.out
  have x1 : w1.cell? ⟨w.heap.size, 1, none⟩ = some (.int .i64 a) := cell_blk (k := 1) hx1 rfl
  have x2 : w1.cell? ⟨w.heap.size, 2, none⟩ = some (.int .i64 b) := cell_blk (k := 2) hx1 rfl
  have x3 : w1.cell? ⟨w.heap.size, 3, none⟩ = some (.int .i64 n) := cell_blk (k := 3) hx1 rfl
  have HBW : Hid (Below w.heap.size w w1) := Lib.hid (HB.out.trans (hb1.mono HB.out.size))
  clear hb1 hx1 HH HB cu cn
  have pa := rwithin_any a 0 65535 w1
  have pb := rwithin_any b 0 65535 w1
  have pv := rwithin_any n (-2147483648) 2147483647 w1
  obtain ⟨ra, hra⟩ : ∃ x, bMay 0 65535 a = x := ⟨_, rfl⟩
  obtain ⟨rb, hrb⟩ : ∃ x, bMay 0 65535 b = x := ⟨_, rfl⟩
  obtain ⟨rn, hrn⟩ : ∃ x, bMay (-2147483648) 2147483647 n = x := ⟨_, rfl⟩
  rw [hra] at pa
  rw [hrb] at pb
  rw [hrn] at pv
  have HA := Lib.hid hra
  have HB := Lib.hid hrb
  have HN := Lib.hid hrn
  clear hra hrb hrn
  cases e0 with
  | true =>
    go_wp2
    go_ret
    refine ⟨?_, HBW.out⟩
    rw [← HR.out]
    simp [iMay, HE.out]
  | false =>
    rcases HF.out with ⟨rfl, rfl, rfl⟩ | ⟨rfl, rfl, rfl⟩ | ⟨rfl, rfl, rfl⟩ | ⟨rfl, rfl, rfl⟩
    · skip
      by_cases ha : a = 0
      · skip
        by_cases hb : b = 0
        · skip
          by_cases hn : n = 0
          · skip
            subst ha
            subst hb
            subst hn
            go_wp2_with fail
            refine pa.mono ?_
            rintro e w2 ⟨rfl, rfl⟩
            cases ra with
            | false =>
              go_wp2
              go_ret
              refine ⟨?_, HBW.out⟩
              rw [← HR.out]
              first | (simp [iMay, pMay, vMay_b, HE.out, HX.out.1, HX.out.2.1, HX.out.2.2, HA.out, HB.out, HN.out]; done) | exact absurd HA.out (by decide) | exact absurd HB.out (by decide) | exact absurd HN.out (by decide)
            | true =>
              go_wp2_with fail
              refine pb.mono ?_
              rintro e w2 ⟨rfl, rfl⟩
              cases rb with
              | false =>
                go_wp2
                go_ret
                refine ⟨?_, HBW.out⟩
                rw [← HR.out]
                first | (simp [iMay, pMay, vMay_b, HE.out, HX.out.1, HX.out.2.1, HX.out.2.2, HA.out, HB.out, HN.out]; done) | exact absurd HA.out (by decide) | exact absurd HB.out (by decide) | exact absurd HN.out (by decide)
              | true =>
                go_wp2_with fail
                refine pv.mono ?_
                rintro e w2 ⟨rfl, rfl⟩
                cases rn with
                | false =>
                  go_wp2
                  go_ret
                  refine ⟨?_, HBW.out⟩
                  rw [← HR.out]
                  first | (simp [iMay, pMay, vMay_b, HE.out, HX.out.1, HX.out.2.1, HX.out.2.2, HA.out, HB.out, HN.out]; done) | exact absurd HA.out (by decide) | exact absurd HB.out (by decide) | exact absurd HN.out (by decide)
                | true =>
                  go_wp2
                  go_ret
                  refine ⟨?_, HBW.out⟩
                  rw [← HR.out]
                  first | (simp [iMay, pMay, vMay_b, HE.out, HX.out.1, HX.out.2.1, HX.out.2.2, HA.out, HB.out, HN.out]; done) | exact absurd HA.out (by decide) | exact absurd HB.out (by decide) | exact absurd HN.out (by decide)
          · skip
            subst ha
            subst hb
            go_wp2
            go_ret
            refine ⟨?_, HBW.out⟩
            rw [← HR.out]
            simp [iMay, pMay, vMay_b, HE.out, HX.out.1, HX.out.2.1, HX.out.2.2, hn]
        · skip
          subst ha
          go_wp2
          go_ret
          refine ⟨?_, HBW.out⟩
          rw [← HR.out]
          simp [iMay, pMay, vMay_b, HE.out, HX.out.1, HX.out.2.1, HX.out.2.2, hb]
      · skip
        go_wp2
        go_ret
        refine ⟨?_, HBW.out⟩
        rw [← HR.out]
        simp [iMay, pMay, vMay_b, HE.out, HX.out.1, HX.out.2.1, HX.out.2.2, ha]
    · skip
      by_cases hb : b = 0
      · skip
        by_cases hn : n = 0
        · skip
          subst hb
          subst hn
          go_wp2_with fail
          refine pa.mono ?_
          rintro e w2 ⟨rfl, rfl⟩
          cases ra with
          | false =>
            go_wp2
            go_ret
            refine ⟨?_, HBW.out⟩
            rw [← HR.out]
            first | (simp [iMay, pMay, vMay_b, HE.out, HX.out.1, HX.out.2.1, HX.out.2.2, HA.out, HB.out, HN.out]; done) | exact absurd HA.out (by decide) | exact absurd HB.out (by decide) | exact absurd HN.out (by decide)
          | true =>
            go_wp2_with fail
            refine pb.mono ?_
            rintro e w2 ⟨rfl, rfl⟩
            cases rb with
            | false =>
              go_wp2
              go_ret
              refine ⟨?_, HBW.out⟩
              rw [← HR.out]
              first | (simp [iMay, pMay, vMay_b, HE.out, HX.out.1, HX.out.2.1, HX.out.2.2, HA.out, HB.out, HN.out]; done) | exact absurd HA.out (by decide) | exact absurd HB.out (by decide) | exact absurd HN.out (by decide)
            | true =>
              go_wp2_with fail
              refine pv.mono ?_
              rintro e w2 ⟨rfl, rfl⟩
              cases rn with
              | false =>
                go_wp2
                go_ret
                refine ⟨?_, HBW.out⟩
                rw [← HR.out]
                first | (simp [iMay, pMay, vMay_b, HE.out, HX.out.1, HX.out.2.1, HX.out.2.2, HA.out, HB.out, HN.out]; done) | exact absurd HA.out (by decide) | exact absurd HB.out (by decide) | exact absurd HN.out (by decide)
              | true =>
                go_wp2
                go_ret
                refine ⟨?_, HBW.out⟩
                rw [← HR.out]
                first | (simp [iMay, pMay, vMay_b, HE.out, HX.out.1, HX.out.2.1, HX.out.2.2, HA.out, HB.out, HN.out]; done) | exact absurd HA.out (by decide) | exact absurd HB.out (by decide) | exact absurd HN.out (by decide)
        · skip
          subst hb
          go_wp2
          go_ret
          refine ⟨?_, HBW.out⟩
          rw [← HR.out]
          simp [iMay, pMay, vMay_b, HE.out, HX.out.1, HX.out.2.1, HX.out.2.2, hn]
      · skip
        go_wp2
        go_ret
        refine ⟨?_, HBW.out⟩
        rw [← HR.out]
        simp [iMay, pMay, vMay_b, HE.out, HX.out.1, HX.out.2.1, HX.out.2.2, hb]
    · skip
      by_cases hn : n = 0
      · skip
        subst hn
        go_wp2_with fail
        refine pa.mono ?_
        rintro e w2 ⟨rfl, rfl⟩
        cases ra with
        | false =>
          go_wp2
          go_ret
          refine ⟨?_, HBW.out⟩
          rw [← HR.out]
          first | (simp [iMay, pMay, vMay_b, HE.out, HX.out.1, HX.out.2.1, HX.out.2.2, HA.out, HB.out, HN.out]; done) | exact absurd HA.out (by decide) | exact absurd HB.out (by decide) | exact absurd HN.out (by decide)
        | true =>
          go_wp2_with fail
          refine pb.mono ?_
          rintro e w2 ⟨rfl, rfl⟩
          cases rb with
          | false =>
            go_wp2
            go_ret
            refine ⟨?_, HBW.out⟩
            rw [← HR.out]
            first | (simp [iMay, pMay, vMay_b, HE.out, HX.out.1, HX.out.2.1, HX.out.2.2, HA.out, HB.out, HN.out]; done) | exact absurd HA.out (by decide) | exact absurd HB.out (by decide) | exact absurd HN.out (by decide)
          | true =>
            go_wp2_with fail
            refine pv.mono ?_
            rintro e w2 ⟨rfl, rfl⟩
            cases rn with
            | false =>
              go_wp2
              go_ret
              refine ⟨?_, HBW.out⟩
              rw [← HR.out]
              first | (simp [iMay, pMay, vMay_b, HE.out, HX.out.1, HX.out.2.1, HX.out.2.2, HA.out, HB.out, HN.out]; done) | exact absurd HA.out (by decide) | exact absurd HB.out (by decide) | exact absurd HN.out (by decide)
            | true =>
              go_wp2
              go_ret
              refine ⟨?_, HBW.out⟩
              rw [← HR.out]
              first | (simp [iMay, pMay, vMay_b, HE.out, HX.out.1, HX.out.2.1, HX.out.2.2, HA.out, HB.out, HN.out]; done) | exact absurd HA.out (by decide) | exact absurd HB.out (by decide) | exact absurd HN.out (by decide)
      · skip
        go_wp2
        go_ret
        refine ⟨?_, HBW.out⟩
        rw [← HR.out]
        simp [iMay, pMay, vMay_b, HE.out, HX.out.1, HX.out.2.1, HX.out.2.2, hn]
    · skip
      by_cases ha : a = 0
      · skip
        by_cases hb : b = 0
        · skip
          subst ha
          subst hb
          go_wp2_with fail
          refine pa.mono ?_
          rintro e w2 ⟨rfl, rfl⟩
          cases ra with
          | false =>
            go_wp2
            go_ret
            refine ⟨?_, HBW.out⟩
            rw [← HR.out]
            first | (simp [iMay, pMay, vMay_b, HE.out, HX.out.1, HX.out.2.1, HX.out.2.2, HA.out, HB.out, HN.out]; done) | exact absurd HA.out (by decide) | exact absurd HB.out (by decide) | exact absurd HN.out (by decide)
          | true =>
            go_wp2_with fail
            refine pb.mono ?_
            rintro e w2 ⟨rfl, rfl⟩
            cases rb with
            | false =>
              go_wp2
              go_ret
              refine ⟨?_, HBW.out⟩
              rw [← HR.out]
              first | (simp [iMay, pMay, vMay_b, HE.out, HX.out.1, HX.out.2.1, HX.out.2.2, HA.out, HB.out, HN.out]; done) | exact absurd HA.out (by decide) | exact absurd HB.out (by decide) | exact absurd HN.out (by decide)
            | true =>
              go_wp2_with fail
              refine pv.mono ?_
              rintro e w2 ⟨rfl, rfl⟩
              cases rn with
              | false =>
                go_wp2
                go_ret
                refine ⟨?_, HBW.out⟩
                rw [← HR.out]
                first | (simp [iMay, pMay, vMay_b, HE.out, HX.out.1, HX.out.2.1, HX.out.2.2, HA.out, HB.out, HN.out]; done) | exact absurd HA.out (by decide) | exact absurd HB.out (by decide) | exact absurd HN.out (by decide)
              | true =>
                go_wp2
                go_ret
                refine ⟨?_, HBW.out⟩
                rw [← HR.out]
                first | (simp [iMay, pMay, vMay_b, HE.out, HX.out.1, HX.out.2.1, HX.out.2.2, HA.out, HB.out, HN.out]; done) | exact absurd HA.out (by decide) | exact absurd HB.out (by decide) | exact absurd HN.out (by decide)
        · skip
          subst ha
          go_wp2
          go_ret
          refine ⟨?_, HBW.out⟩
          rw [← HR.out]
          simp [iMay, pMay, vMay_b, HE.out, HX.out.1, HX.out.2.1, HX.out.2.2, hb]
      · skip
        go_wp2
        go_ret
        refine ⟨?_, HBW.out⟩
        rw [← HR.out]
        simp [iMay, pMay, vMay_b, HE.out, HX.out.1, HX.out.2.1, HX.out.2.2, ha]
end Go.Proofs.YtjbinejaagpleaaDoor
