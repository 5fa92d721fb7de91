/- Words with a blank between are lexed as the same words: the walk. Asked: strconv's ErrRange is laid. -/
import Derived.Test.YtinfocnihngbiaaDoorLawD
namespace Go.Proofs.YtinfocnihngbiaaDoor
open Go.RowKit

set_option maxRecDepth 100000 in
set_option maxHeartbeats 40000000 in
theorem again_any (s : ByteArray) (w : World) (hE : ErrR w) : Calls Tryd.prog 7 #[.string s] w (Tru w) := by
  by_cases h : 2000 < s.size
  · have hi : (2000 : Int) < (s.size : Int) := by omega
    go_enter Tryd.func7, Tryd.ntmps7
    go_wp2_with fail
    refine (works_any w hE).mono ?_
    rintro e w1 ⟨rfl, hb1⟩
    go_wp2
    go_ret
    exact ⟨rfl, hb1⟩
  · have hi : ¬ (2000 : Int) < (s.size : Int) := by omega
    have c1 := lex_out s w hE
    have hlen := lexR_len s
    have hnil : (lexR s).2.2 ≠ 0 → (lexR s).1 = [] := by
      unfold lexR
      rw [if_neg (by omega)]
      exact lexA_nil _ 0 [] (Nat.le_refl _)
    have hch : (lexR s).2.2 = 0 → Ch s 0 (lexR s).1 := by
      unfold lexR
      rw [if_neg (by omega)]
      intro h0
      obtain ⟨l, h1, h2⟩ := Ch.of_lex _ 0 [] (Nat.le_refl _) h0
      rw [h2]
      exact h1
    obtain ⟨⟨l, ⟨x, y⟩, er⟩, hR⟩ : ∃ R, lexR s = R := ⟨_, rfl⟩
    rw [hR] at c1 hlen hnil hch
    simp only at hnil hch hlen
    clear hR
    have HNIL := Lib.hid hnil
    have HCH := Lib.hid hch
    clear hnil hch
    go_enter Tryd.func7, Tryd.ntmps7
    go_wp2_with fail
    refine c1.mono ?_
    rintro e w1 ⟨a1, cap1, rfl, hO1, hb1⟩
    clear c1
    go_wp2_with fail
    have hBA : Below w1.heap.size w1 (w1.alloc (.cells #[.int .i64 x, .int .i64 y] 25)) := (Below.refl _ w1).alloc (Nat.le_refl _) _
    have hO2 := hO1.below hBA
    have hB2 := hb1.trans (hBA.mono hb1.size)
    clear hO1 hBA hb1
    change Calls _ _ _ (w1.alloc (.cells #[.int .i64 x, .int .i64 y] 25)) _
    generalize w1.alloc (.cells #[.int .i64 x, .int .i64 y] 25) = wA at *
    refine (num_any er wA).mono ?_
    rintro e w' ⟨rfl, rfl⟩
    by_cases he : er = 0
    · subst he
      have hch := HCH.out rfl
      have hgood := Ch.good _ _ hch
      have HGOOD := Lib.hid hgood
      have HC0 := Lib.hid (show Ch s 0 (l.drop 0) from hch)
      obtain ⟨n, hn⟩ : ∃ n, l.length = n := ⟨_, rfl⟩
      have hO3 : LOut l a1 cap1 wA := hO2
      have hlc := hO3.lc
      have hmx := hO3.mx
      unfold maxLen at hmx
      rw [hn] at hlen hlc
      have HN := Lib.hid hn
      have HW := Lib.hid hO3.wds
      clear HNIL HCH hch hgood hO2 hO3
      simp only [hn]
      clear hn
      go_wp2_with fail
      go_loopw [6, 7, 8] (fun sx la i wr => ∃ (j k : Nat) (X : ByteArray) (z : Int), j ≤ n ∧ i = .int .i64 j ∧ sx = .string X ∧ la = .int .i64 z ∧ Hid (z = (k : Int) - 1) ∧ Hid (Ch s k (l.drop j)) ∧ Hid (k ≤ s.size) ∧ Hid (X.size ≤ 2 * k) ∧ Hid (X.data.toList = (l.take j).flatMap spW) ∧ Hid (Wds wr a1 l) ∧ Hid (Below w.heap.size w wr) ∧ Hid (Below wA.heap.size wA wr)) (fun _ _ i _ => n - (intOf i).toNat)
      case atStart => exact ⟨0, 0, ⟨#[]⟩, -1, Nat.zero_le _, rfl, rfl, rfl, Lib.hid (by omega), HC0, Lib.hid (Nat.zero_le _), Lib.hid (Nat.le_refl _), Lib.hid rfl, HW, Lib.hid hB2, Lib.hid (Below.refl _ _)⟩
      case round =>
        clear HC0 HW
        obtain ⟨j, k, X, z, hj, rfl, rfl, rfl, HZ, HC, HK, HX, HXL, HW, HB, HBA⟩ := hrel
        by_cases hjn : j < n
        · have hjl : j < l.length := by rw [HN.out]; exact hjn
          have hp0 : (0 : Int) ≤ (j : Int) := by omega
          have hp1 : (j : Int) < (n : Int) := by omega
          obtain ⟨g1, g2, g3, g4⟩ := HC.out.step hjl
          have g5 := gap_ge s k
          have g6 := wEnd_gt g1 g2
          have g7 := wEnd_le g1
          obtain ⟨b, off, rfl, x0, x1, x2, x3, x4⟩ := HW.out j hjl
          obtain ⟨p, hp⟩ : ∃ p, gapAt s k = p := ⟨_, rfl⟩
          rw [hp] at g1 g2 g3 g4 g5 g6 g7
          obtain ⟨T, hT⟩ : ∃ T, s.extract p (wEnd s p) = T := ⟨_, rfl⟩
          obtain ⟨m, hm⟩ : ∃ m, T.size = m := ⟨_, rfl⟩
          have hpm : p + m = wEnd s p := by rw [← hm, ← hT, ByteArray.size_extract]; omega
          rw [g3] at x1 x3 x4
          have y1 : wr.cell? ⟨b, off + j * 5 + 1, none⟩ = some (.string T) := by rw [← hT]; exact x1
          have y3 : wr.cell? ⟨b, off + j * 5 + 3, none⟩ = some (.int .i64 (posAt s p).1) := x3
          have y4 : wr.cell? ⟨b, off + j * 5 + 3 + 1, none⟩ = some (.int .i64 (posAt s p).2) := x4
          have hsp := take_sp hjl
          rw [g3, show (tokW s p).text = T from hT] at hsp
          have HSP := Lib.hid hsp
          have HC2 := Lib.hid g4
          have HPM := Lib.hid hpm
          have HTT := Lib.hid hT
          have HM := Lib.hid hm
          have hkz : z < (p : Int) := by have := HZ.out; omega
          have hmpos : 0 < m := by omega
          have hps : p + m ≤ s.size := by omega
          have hpmk : p + m = p + m := rfl
          have HKP := Lib.hid g5
          clear x0 x1 x2 x3 x4 g3 g4 g2 hp hsp hpm hT hpmk g5 g6 g7
          have cat := fun w => at_any s p w g1 (by omega)
          go_wp2_with fail
          refine (cat _).mono ?_
          rintro e w5 ⟨rfl, hb5⟩
          have HB5 := Lib.hid (HB.out.trans (hb5.mono HB.out.size))
          have HBA5 := Lib.hid (HBA.out.trans (hb5.mono HBA.out.size))
          have HW5 := Lib.hid (HW.out.below hb5 (Nat.le_refl _))
          have hlt := World.block_lt_of_cell? wr _ y1
          have v1 : w5.cell? ⟨b, off + j * 5 + 1, none⟩ = some (.string T) := (hb5.cell (p := ⟨b, off + j * 5 + 1, none⟩) hlt).trans y1
          clear y1 y3 y4 cat hb5 hlt HB HBA HW
          have d1 : decide ((p : Int) ≤ z) = false := decide_eq_false (by omega)
          have w1 : IntKind.i64.wrap ((p : Int) + (m : Int)) = (p : Int) + (m : Int) := IntWalk.i64_in _ (by omega)
          have d2 : decide ((s.size : Int) < (p : Int) + (m : Int)) = false := decide_eq_false (by omega)
          have q1 : ((s.extract p (p + m)).toList == T.toList) = true := by
            rw [HPM.out, HTT.out]
            exact beq_self_eq_true _
          have q3 : ((s.extract p (p + m)).toList != T.toList) = false := by
            rw [HPM.out, HTT.out]
            simp
          obtain ⟨q4, q5, q6, q7⟩ := not_empty (T := T) (by rw [HM.out]; exact hmpos)
          have hfi : (p : Int) + (m : Int) ≤ (s.size : Int) := by omega
          have hk0 : (0 : Int) ≤ (p : Int) + (m : Int) := by omega
          have hk1 : (p : Int) ≤ (p : Int) + (m : Int) := by omega
          have tt : ((p : Int) + (m : Int)).toNat = p + m := by omega
          have hxs : T.size = m := HM.out
          go_wp2_with fail
          go_quiet (fail)
          rename_i nq
          have HB6 : Hid (Below w.heap.size w (w5.drewN nq)) := Lib.hid ⟨HB5.out.os, HB5.out.tape, HB5.out.output, HB5.out.size, HB5.out.block⟩
          have HBA6 : Hid (Below wA.heap.size wA (w5.drewN nq)) := Lib.hid ⟨HBA5.out.os, HBA5.out.tape, HBA5.out.output, HBA5.out.size, HBA5.out.block⟩
          have HW6 : Hid (Wds (w5.drewN nq) (some ⟨b, off, none⟩) l) := HW5
          clear d1 w1 d2 q1 q3 q4 q5 q6 q7 HB5 HBA5 HW5
          have xm1 : ¬ 9223372036854775807 < X.size + m := by have := HX.out; have := HK.out; omega
          have xm2 : ¬ 9223372036854775807 < X.size + m + 1 := by have := HX.out; have := HK.out; omega
          go_wp2
          go_roundw
          case rel =>
            have hk2 : k ≤ p := HKP.out
            refine ⟨j + 1, wEnd s p, X ++ T ++ ⟨#[32]⟩, (p : Int) + (m : Int) - 1, by omega, by go_num, rfl, rfl, Lib.hid (by rw [← HPM.out]; omega), HC2, Lib.hid (by rw [← HPM.out]; omega), Lib.hid ?_, Lib.hid ?_, HW6, HB6, HBA6⟩
            · rw [← HPM.out]
              have h1 : (X ++ T ++ (⟨#[32]⟩ : ByteArray)).size = X.size + T.size + 1 := by rw [ByteArray.size_append, ByteArray.size_append]; rfl
              have := HX.out
              rw [h1, HM.out]
              omega
            · rw [HSP.out, ← HXL.out]
              simp
          case measure => simp [intOf]; omega
        · obtain rfl : j = n := by omega
          have hXs : X.size ≤ 4000 := by have := HX.out; have := HK.out; omega
          have hXL : X.data.toList.drop 0 = l.flatMap spW := by
            rw [List.drop_zero, HXL.out, List.take_of_length_le (by rw [HN.out]; exact Nat.le_refl _)]
          obtain ⟨mm, hcm, hsam⟩ := relex l 0 HGOOD.out hXL
          have hRX : lexR X = (mm, (0, 0), 0) := by
            unfold lexR
            rw [if_neg (by omega), hcm.to_lex mm 0 []]
            rfl
          have hml : mm.length = j := hsam.len.trans HN.out
          have cx := fun w hE => lex_any X w hE
          rw [hRX] at cx
          have HSAM := Lib.hid hsam
          have HML := Lib.hid hml
          clear hXL hcm hRX hsam hml HX HK HXL HC HZ HGOOD
          have hEr := hE.below HB.out hE.1
          go_wp2_with fail
          refine (cx _ hEr).mono ?_
          rintro e w5 ⟨v, rfl, hown, hb5⟩
          clear cx
          simp only at hown
          have hWdl := HW.out
          have hW5 := HW.out.below hb5 (Nat.le_refl _)
          have hB5 := HB.out.trans (hb5.mono HB.out.size)
          have hszr := HB.out.size
          have hsz5 := hb5.size
          obtain ⟨Bz, hBz⟩ : ∃ Bz, wr.heap.size = Bz := ⟨_, rfl⟩
          rw [hBz] at hown hsz5 hszr
          have hBA7 : Below w5.heap.size w5 (w5.alloc (.cells #[.int .i64 0, .int .i64 0] 25)) := (Below.refl _ w5).alloc (Nat.le_refl _) _
          have hown6 := ownsRow_blw hown hBA7
          have hW6 := hW5.below hBA7 (Nat.le_refl _)
          have hB6 := hB5.trans (hBA7.mono hB5.size)
          obtain ⟨a2, cap2, rfl⟩ : ∃ a2 cap2, v = .slice a2 j cap2 := by
            rcases hown.2 with ⟨rfl, h0⟩ | ⟨g, cap, cur, rfl, _⟩
            · exact ⟨none, 0, by rw [← HML.out, h0]⟩
            · exact ⟨some ⟨g, 0, none⟩, cap, by rw [HML.out]⟩
          have hcap2 : j ≤ cap2 ∧ cap2 ≤ 2 ^ 63 - 1 := by
            rcases hown.2 with ⟨h1, h0⟩ | ⟨g, cap, cur, h1, _, _, h2, h3, _⟩
            · cases h1
              exact ⟨Nat.le_refl _, by omega⟩
            · cases h1
              unfold maxLen at h3
              rw [HML.out] at h2
              exact ⟨h2, h3⟩
          have hmix : Mix Bz l a2 cap2 0 (w5.alloc (.cells #[.int .i64 0, .int .i64 0] 25)) := ⟨mm, by rw [HML.out, HN.out], by rw [HN.out, ← HML.out]; rw [HML.out] at hown6 ⊢; exact hown6, HSAM.out, fun i hi => by omega⟩
          have HMIX := Lib.hid hmix
          have HWL := Lib.hid hW6
          have HBB := Lib.hid hB6
          have HBZ : Hid (∀ b off, a1 = some ⟨b, off, none⟩ → 0 < j → b < Bz) := Lib.hid (fun b off h0 hj0 => by
            obtain ⟨b', off', h1, h2, _⟩ := hWdl 0 (by rw [HN.out]; exact hj0)
            have h3 := World.block_lt_of_cell? wr _ h2
            rw [h0] at h1
            cases h1
            rw [← hBz]
            exact h3)
          obtain ⟨hc1, hc2⟩ := hcap2
          clear hown hown6 hmix hW6 hB6 hB5 hW5 hWdl hBA7 hBz hb5 HSAM HML hEr HB HW HBA hXs
          go_wp2_with fail
          generalize w5.alloc (.cells #[.int .i64 0, .int .i64 0] 25) = w7 at *
          refine (num_any 0 _).mono ?_
          rintro e w' ⟨rfl, rfl⟩
          go_wp2_with fail
          go_loopw [13] (fun i wr => ∃ k : Nat, k ≤ j ∧ i = .int .i64 k ∧ Hid (Mix Bz l a2 cap2 k wr) ∧ Hid (Wds wr a1 l) ∧ Hid (Below w.heap.size w wr)) (fun i _ => j - (intOf i).toNat)
          case atStart => exact ⟨0, Nat.zero_le _, rfl, HMIX, HWL, HBB⟩
          case round =>
            clear HMIX HWL HBB
            obtain ⟨k, hkj, rfl, HM, HW, HB⟩ := hrel
            by_cases hk : k < j
            · have hkl : k < l.length := by rw [HN.out]; exact hk
              have hp0 : (0 : Int) ≤ (k : Int) := by omega
              have hp1 : (k : Int) < (j : Int) := by omega
              obtain ⟨b, off, rfl, _, _, _, x3, x4⟩ := HW.out k hkl
              have y3 : wr.cell? ⟨b, off + k * 5 + 3, none⟩ = some (.int .i64 (l.getD k default).line) := x3
              have y4 : wr.cell? ⟨b, off + k * 5 + 3 + 1, none⟩ = some (.int .i64 (l.getD k default).col) := x4
              have hbz := HBZ.out b off rfl (by omega)
              obtain ⟨g, rfl, hg⟩ : ∃ g, a2 = some ⟨g, 0, none⟩ ∧ Bz ≤ g := by
                obtain ⟨mm, _, h2, _, _⟩ := HM.out.ex
                rcases h2.2 with ⟨_, h0⟩ | ⟨g, cap, cur, h1, h3, _⟩
                · omega
                · cases h1
                  exact ⟨g, rfl, h3⟩
              obtain ⟨v3, z3, f3⟩ := HM.out.cell (k * 5 + 3) (by omega)
              obtain ⟨v4, z4, f4⟩ := HM.out.cell (k * 5 + 4) (by omega)
              have z4' : wr.cell? ⟨g, k * 5 + 3 + 1, none⟩ = some v4 := z4
              have f4' : wr.frozen? ⟨g, k * 5 + 3 + 1, none⟩ = false := f4
              obtain ⟨hst, hgr⟩ := HM.out.step hkl
              have hW2 := HW.out.grown hgr (fun b' off' e => by cases e; omega)
              have hB2 := HB.out.grown hgr HB.out.size (fun r e => by cases e; omega)
              obtain ⟨xl, hxl⟩ : ∃ x, (l.getD k default).line = x := ⟨_, rfl⟩
              obtain ⟨xc, hxc⟩ : ∃ x, (l.getD k default).col = x := ⟨_, rfl⟩
              rw [hxl] at y3 hst hW2 hB2
              rw [hxc] at y4 hst hW2 hB2
              have HST := Lib.hid hst
              have HW2 := Lib.hid hW2
              have HB2 := Lib.hid hB2
              clear x3 x4 z4 f4 hst hgr hW2 hB2 hxl hxc HM HW HB
              go_wp2
              go_roundw
              case rel => exact ⟨k + 1, by omega, by go_num, HST, HW2, HB2⟩
              case measure => simp [intOf]; omega
            · obtain rfl : k = j := by omega
              obtain ⟨mx, h1, h2, _, h4⟩ := HM.out.ex
              have he2 : mx = l := same_list h1 (fun i hi => h4 i (by rw [← HN.out]; exact hi))
              subst he2
              have hWm : Wds wr a2 mx := wds_of h2
              have cs := wsame_in (c1 := cap2) (c2 := cap1) HN.out HN.out (by omega) hWm HW.out
              rw [wdsE_refl] at cs
              have hBf := HB.out
              clear h1 h2 h4 hWm HM HW HB hk
              go_wp2_with fail
              refine cs.mono ?_
              rintro e w9 ⟨rfl, nd, rfl⟩
              clear cs
              have hBf2 : Below w.heap.size w (wr.drewN nd) := ⟨hBf.os, hBf.tape, hBf.output, hBf.size, hBf.block⟩
              go_wp2_with fail
              refine (works_any _ (hE.below hBf2 hE.1)).mono ?_
              rintro e w10 ⟨rfl, hb10⟩
              have hBg := hBf2.trans (hb10.mono hBf2.size)
              go_wp2
              go_ret
              exact ⟨rfl, hBg⟩
    · have hl : l = [] := HNIL.out he
      subst hl
      have hei : (er == 0) = false := by rw [beq_eq_false_iff_ne]; exact he
      have hei2 : (er != 0) = true := by rw [bne_iff_ne]; exact he
      clear HNIL HCH he hlen
      go_wp2_with fail
      refine (works_any _ (hE.below hB2 hE.1)).mono ?_
      rintro e w10 ⟨rfl, hb10⟩
      have hBg := hB2.trans (hb10.mono hB2.size)
      go_wp2
      go_ret
      exact ⟨rfl, hBg⟩
end Go.Proofs.YtinfocnihngbiaaDoor
