/- The bounds of texts, names and numbers, and one past them, and each keyword. Asked: strconv's ErrRange is laid. -/
import Derived.Test.YtinfocnihngbiaaDoorLawA
import Derived.Test.YtinfocnihngbiaaDoorLexC2
import Derived.Lib.SlBytesRow
import Derived.OwnWalk
namespace Go.Proofs.YtinfocnihngbiaaDoor
open Go.RowKit

theorem ext_list {s : ByteArray} {k n : Nat} : (s.extract k (k + n)).data.toList = (s.data.toList.drop k).take n := by
  rw [ByteArray.data_extract, Array.toList_extract, List.extract_eq_take_drop]
  congr 1
  omega
theorem bytes_below {w w' : World} {B b : Nat} {s : ByteArray} (h : Lib.Bytes w b 0 s) (hb : Below B w w') (hB : w.heap.size ≤ B) : Lib.Bytes w' b 0 s := fun i hi => by
  have h1 := h i hi
  exact (hb.cell (p := ⟨b, 0 + i, none⟩) (Nat.lt_of_lt_of_le (World.block_lt_of_cell? w _ h1) hB)).trans h1
theorem bls_ext {n k : Nat} (h : n ≤ k) : (bls k).extract 0 (0 + n) = bls n := by
  refine ByteArray.ext (Array.ext' ?_)
  rw [ext_list]
  show ((List.replicate k (32 : UInt8)).drop 0).take n = List.replicate n 32
  rw [List.drop_zero, List.take_replicate, Nat.min_eq_left h]
theorem kw_sz : ∀ x ∈ kwL, x.size ≤ 6 := by decide
theorem num_q (x : Int) (w : World) : Calls Tryd.prog 14 #[.int .i64 x] w fun e w' => e = .returned (.int .i64 x) ∧ w' = w := (num_any x w).mono fun _ _ h => ⟨h.1, h.2.symm⟩
theorem info5 : (Tryd.prog.info? 5).map (fun i => (i.zero, i.size, i.bytes)) = some (some (.int .u8 0), 1, 1) := by kernel_rfl

set_option maxRecDepth 100000 in
set_option maxHeartbeats 40000000 in
theorem bounds_any (w : World) (hE : ErrR w) : Calls Tryd.prog 5 #[] w (Tru w) := by
  obtain ⟨i0, hi0, hz0, hz1, hz2⟩ := info_parts info5
  obtain ⟨N, hN⟩ : ∃ N : Nat, N = 65537 := ⟨_, rfl⟩
  have HN := Lib.hid hN
  have hn1 : (65536 : Int) ≤ (N : Int) := by omega
  have hn2 : (N : Int) ≤ 9223372036854775807 := by omega
  clear hN
  go_enter Tryd.func5, Tryd.ntmps5
  go_wp2_with (at_make; refine wpList_make_full _ rfl (.const (.int .i64 65537)) (.const (.int .i64 65537)) 34 rfl w.heap.size 5 i0 (.int .u8 0) 1 Tryd.underlying34 hi0 hz0 hz1 .i64 .i64 65537 65537 N rfl rfl ?c1 ?c2 ?c3 ?c4 ?c5 ?_)
  case c1 => have := HN.out; omega
  case c2 => have := HN.out; omega
  case c3 => have := HN.out; rw [hz2]; omega
  case c4 => have := HN.out; unfold maxLen; omega
  case c5 => exact Nat.le_refl _
  intro w1 hown hgr
  have hB := (Below.refl w.heap.size w).grown hgr (Nat.le_refl _) (fun r e => by cases e)
  have HO : Hid (∃ xs, w1.ownsRow w.heap.size 5 1 (.slice (some ⟨w.heap.size, 0, none⟩) N N) N xs ∧ ∀ i, i < 0 → xs[i]? = some (.int .u8 32)) := Lib.hid ⟨_, hown, fun i hi => by omega⟩
  clear hown hgr hi0 hz0 hz1 hz2
  go_wp2_with fail
  go_loopw [2] (fun i wr => ∃ k : Nat, k ≤ N ∧ i = .int .i64 k ∧ Hid (∃ xs, wr.ownsRow w.heap.size 5 1 (.slice (some ⟨w.heap.size, 0, none⟩) N N) N xs ∧ ∀ i, i < k → xs[i]? = some (.int .u8 32)) ∧ Hid (Below w.heap.size w wr)) (fun i _ => N - (intOf i).toNat)
  case atStart => exact ⟨0, Nat.zero_le _, rfl, HO, Lib.hid hB⟩
  case round =>
    clear HO hB
    obtain ⟨k, hk, rfl, HO, HB⟩ := hrel
    by_cases hkN : k < N
    · have hp0 : (0 : Int) ≤ (k : Int) := by omega
      have hp1 : (k : Int) < (N : Int) := by omega
      obtain ⟨xs, hown, hx⟩ := HO.out
      have hc := hown.cellAt k (by omega)
      have hlen : xs.length = N := by have := hown.1; omega
      rw [List.getElem?_eq_getElem (by omega)] at hc
      have hf := hown.frozenAt k
      obtain ⟨o1, b1⟩ := hown.stored k (.int .u8 32)
      have HO2 : Hid (∃ xs, (wr.setCell ⟨w.heap.size, k, none⟩ (.int .u8 32)).ownsRow w.heap.size 5 1 (.slice (some ⟨w.heap.size, 0, none⟩) N N) N xs ∧ ∀ i, i < k + 1 → xs[i]? = some (.int .u8 32)) := Lib.hid ⟨_, o1, fun i hi => by
        rw [List.getElem?_set]
        split
        · rename_i h
          rw [if_pos (by omega)]
        · exact hx i (by omega)⟩
      have HB2 : Hid (Below w.heap.size w (wr.setCell ⟨w.heap.size, k, none⟩ (.int .u8 32))) := Lib.hid (HB.out.setCell (p := ⟨w.heap.size, k, none⟩) (Nat.le_refl _) _)
      obtain ⟨old, hold⟩ : ∃ v, xs[k] = v := ⟨_, rfl⟩
      rw [hold] at hc
      clear hold o1 b1 hlen hx hown HO HB
      go_wp2
      go_roundw
      case rel => exact ⟨k + 1, by omega, by go_num, HO2, HB2⟩
      case measure => simp [intOf]; omega
    · obtain rfl : k = N := by omega
      obtain ⟨xs, hown, hx⟩ := HO.out
      have hby : Lib.Bytes wr w.heap.size 0 (bls k) := fun i hi => by
        rw [bls_size] at hi
        have hc := hown.cellAt i (by omega)
        rw [hx i hi] at hc
        rw [Nat.zero_add, hc]
        have : (bls k)[i] = 32 := by
          show (List.replicate k (32 : UInt8)).toArray[i]'_ = 32
          simp
        rw [this]
        rfl
      have HBY := Lib.hid hby
      clear hby hx hown HO
      have hcv : ∀ n, n ≤ k → ∀ W, Lib.Bytes W w.heap.size 0 (bls k) → (convert 34 9 (.slice (some ⟨w.heap.size, 0, none⟩) n k)).run Tryd.prog W = .ok (.string (bls n)) W := fun n hn W hW => by
        have h := Lib.run_convert_window (P := Tryd.prog) W 34 5 9 Tryd.underlying34 Tryd.underlying5 Tryd.underlying9 w.heap.size 0 (bls k) hW 0 n k (by rw [bls_size]; omega)
        rw [bls_ext hn] at h
        exact h
      have HCV := Lib.hid hcv
      clear hcv
      obtain ⟨S1, hS1⟩ : ∃ S, S = bls 65536 := ⟨_, rfl⟩
      have e1 : (convert 34 9 (.slice (some ⟨w.heap.size, 0, none⟩) 65536 k)).run Tryd.prog wr = .ok (.string S1) wr := by
        rw [hS1]
        exact HCV.out 65536 (by have := HN.out; omega) wr HBY.out
      have hEr := hE.below HB.out hE.1
      have c1 := lex_out S1 wr hEr
      rw [hS1, lexBl (Nat.le_refl _), ← hS1] at c1
      clear hS1
      go_wp2_with fail
      refine c1.mono ?_
      rintro e w2 ⟨a1, cap1, rfl, hO1, hb1⟩
      clear c1 e1
      have hBA1 : Below w2.heap.size w2 (w2.alloc (.cells #[.int .i64 0, .int .i64 0] 25)) := (Below.refl _ w2).alloc (Nat.le_refl _) _
      have hB2 := hb1.trans (hBA1.mono hb1.size)
      have hBy2 := bytes_below HBY.out hB2 (Nat.le_refl _)
      have hB3 := HB.out.trans (hB2.mono HB.out.size)
      have hE3 := hE.below hB3 hE.1
      obtain ⟨S2, hS2⟩ : ∃ S, S = bls k := ⟨_, rfl⟩
      have e2 : (convert 34 9 (.slice (some ⟨w.heap.size, 0, none⟩) k k)).run Tryd.prog (w2.alloc (.cells #[.int .i64 0, .int .i64 0] 25)) = .ok (.string S2) (w2.alloc (.cells #[.int .i64 0, .int .i64 0] 25)) := by
        rw [hS2]
        exact HCV.out k (Nat.le_refl _) _ hBy2
      have c2 := lex_out S2 _ hE3
      rw [hS2, lexBl2 (by have := HN.out; omega), ← hS2] at c2
      clear hS2 hb1 hBA1 hB2 hBy2 HBY HCV HB hO1
      go_wp2_with fail
      refine c2.mono ?_
      rintro e w3 ⟨a2, cap2, rfl, hO2, hb2⟩
      clear c2 e2 hO2
      have hB4 := (hB3.trans (hb2.mono hB3.size))
      clear hB3 hE3 hb2
      have hA3 : Ps (w3.alloc (.cells #[.int .i64 0, .int .i64 0] 25)) w3.heap.size (0, 0) := World.alloc_heap_new _ _
      have hBA3 : Below w3.heap.size w3 (w3.alloc (.cells #[.int .i64 0, .int .i64 0] 25)) := (Below.refl _ w3).alloc (Nat.le_refl _) _
      replace hB4 := hB4.trans (hBA3.mono hB4.size)
      obtain ⟨ba3, hba3⟩ : ∃ b, w3.heap.size = b := ⟨_, rfl⟩
      clear hBA3
      have hE4 := hE.below hB4 hE.1
      have c4 := lex_out sB1 _ hE4
      rw [lexB1] at c4
      go_wp2_with fail
      change Calls _ _ _ (w3.alloc (.cells #[.int .i64 0, .int .i64 0] 25)) _
      rw [hba3] at hA3
      generalize w3.alloc (.cells #[.int .i64 0, .int .i64 0] 25) = v3 at *
      clear hba3
      refine c4.mono ?_
      rintro e w4 ⟨a4, cap4, rfl, hO4, hb4⟩
      clear c4 hE4
      replace hB4 := hB4.trans (hb4.mono hB4.size)
      replace hA3 := hA3.below hb4 hA3.lt
      clear hb4
      have hA4 : Ps (w4.alloc (.cells #[.int .i64 0, .int .i64 0] 25)) w4.heap.size (0, 0) := World.alloc_heap_new _ _
      have hBA4 : Below w4.heap.size w4 (w4.alloc (.cells #[.int .i64 0, .int .i64 0] 25)) := (Below.refl _ w4).alloc (Nat.le_refl _) _
      replace hB4 := hB4.trans (hBA4.mono hB4.size)
      replace hA3 := hA3.below hBA4 hA3.lt
      replace hO4 := hO4.below hBA4
      obtain ⟨ba4, hba4⟩ : ∃ b, w4.heap.size = b := ⟨_, rfl⟩
      clear hBA4
      have hE5 := hE.below hB4 hE.1
      have c5 := lex_out sB2 _ hE5
      rw [lexB2] at c5
      go_wp2_with fail
      change Calls _ _ _ (w4.alloc (.cells #[.int .i64 0, .int .i64 0] 25)) _
      rw [hba4] at hA4
      generalize w4.alloc (.cells #[.int .i64 0, .int .i64 0] 25) = v4 at *
      clear hba4
      refine c5.mono ?_
      rintro e w5 ⟨a5, cap5, rfl, hO5, hb5⟩
      clear c5 hE5
      replace hB4 := hB4.trans (hb5.mono hB4.size)
      replace hA3 := hA3.below hb5 hA3.lt
      replace hO4 := hO4.below hb5
      replace hA4 := hA4.below hb5 hA4.lt
      clear hb5
      clear hO5
      have hA5 : Ps (w5.alloc (.cells #[.int .i64 1, .int .i64 2] 25)) w5.heap.size (1, 2) := World.alloc_heap_new _ _
      have hBA5 : Below w5.heap.size w5 (w5.alloc (.cells #[.int .i64 1, .int .i64 2] 25)) := (Below.refl _ w5).alloc (Nat.le_refl _) _
      replace hB4 := hB4.trans (hBA5.mono hB4.size)
      replace hA3 := hA3.below hBA5 hA3.lt
      replace hO4 := hO4.below hBA5
      replace hA4 := hA4.below hBA5 hA4.lt
      obtain ⟨ba5, hba5⟩ : ∃ b, w5.heap.size = b := ⟨_, rfl⟩
      clear hBA5
      have hE6 := hE.below hB4 hE.1
      have c6 := lex_out sB3 _ hE6
      rw [lexB3] at c6
      go_wp2_with fail
      change Calls _ _ _ (w5.alloc (.cells #[.int .i64 1, .int .i64 2] 25)) _
      rw [hba5] at hA5
      generalize w5.alloc (.cells #[.int .i64 1, .int .i64 2] 25) = v5 at *
      clear hba5
      refine c6.mono ?_
      rintro e w6 ⟨a6, cap6, rfl, hO6, hb6⟩
      clear c6 hE6
      replace hB4 := hB4.trans (hb6.mono hB4.size)
      replace hA3 := hA3.below hb6 hA3.lt
      replace hO4 := hO4.below hb6
      replace hA4 := hA4.below hb6 hA4.lt
      replace hA5 := hA5.below hb6 hA5.lt
      clear hb6
      clear hO6
      have hA6 : Ps (w6.alloc (.cells #[.int .i64 1, .int .i64 1] 25)) w6.heap.size (1, 1) := World.alloc_heap_new _ _
      have hBA6 : Below w6.heap.size w6 (w6.alloc (.cells #[.int .i64 1, .int .i64 1] 25)) := (Below.refl _ w6).alloc (Nat.le_refl _) _
      replace hB4 := hB4.trans (hBA6.mono hB4.size)
      replace hA3 := hA3.below hBA6 hA3.lt
      replace hO4 := hO4.below hBA6
      replace hA4 := hA4.below hBA6 hA4.lt
      replace hA5 := hA5.below hBA6 hA5.lt
      obtain ⟨ba6, hba6⟩ : ∃ b, w6.heap.size = b := ⟨_, rfl⟩
      clear hBA6
      go_wp2_with fail
      change Calls _ _ _ (w6.alloc (.cells #[.int .i64 1, .int .i64 1] 25)) _
      rw [hba6] at hA6
      generalize w6.alloc (.cells #[.int .i64 1, .int .i64 1] 25) = v6 at *
      clear hba6
      refine (rwords_any _).mono ?_
      rintro e w7 ⟨rfl, rfl⟩
      have hT := txts_new v6 kwL
      have hBA7 : Below v6.heap.size v6 (v6.alloc (.cells (kwL.map Value.string).toArray 9)) := (Below.refl _ v6).alloc (Nat.le_refl _) _
      replace hB4 := hB4.trans (hBA7.mono hB4.size)
      replace hA3 := hA3.below hBA7 hA3.lt
      replace hO4 := hO4.below hBA7
      replace hA4 := hA4.below hBA7 hA4.lt
      replace hA5 := hA5.below hBA7 hA5.lt
      replace hA6 := hA6.below hBA7 hA6.lt
      obtain ⟨g, hg⟩ : ∃ g, v6.heap.size = g := ⟨_, rfl⟩
      rw [hg] at hT ⊢
      generalize v6.alloc (.cells (kwL.map Value.string).toArray 9) = W at *
      clear hg hBA7
      have HALL : Hid (Txts W g kwL ∧ Ps W ba3 (0, 0) ∧ Ps W ba5 (1, 2) ∧ Ps W ba6 (1, 1) ∧ LOut _ a4 cap4 W ∧ Below w.heap.size w W) := Lib.hid ⟨hT, hA3, hA5, hA6, hO4, hB4⟩
      have hc4 := hO4.lc
      have hm4 := hO4.mx
      unfold maxLen at hm4
      replace hc4 : 2 ≤ cap4 := hc4
      clear hT hA3 hA4 hA5 hA6 hO4 hB4
      go_wp2_with fail
      go_loopw [19] (fun i wr => ∃ j : Nat, j ≤ 20 ∧ i = .int .i64 j ∧ Hid (Txts wr g kwL ∧ Ps wr ba3 (0, 0) ∧ Ps wr ba5 (1, 2) ∧ Ps wr ba6 (1, 1) ∧ LOut [⟨1, ⟨#[97, 98, 99, 100, 101, 102, 103, 104, 105, 106, 107, 108, 109, 110, 111, 112]⟩, 0, 1, 1⟩, ⟨2, ⟨#[50, 49, 52, 55, 52, 56, 51, 54, 52, 55]⟩, 2147483647, 1, 18⟩] a4 cap4 wr ∧ Below w.heap.size w wr)) (fun i _ => 20 - (intOf i).toNat)
      case atStart => exact ⟨0, Nat.zero_le _, rfl, HALL⟩
      case round =>
        clear HALL
        obtain ⟨j, hj, rfl, HALL⟩ := hrel
        obtain ⟨hT, hA3, hA5, hA6, hO4, hB4⟩ := HALL.out
        clear HALL
        by_cases hj20 : j < 20
        · have hp0 : (0 : Int) ≤ (j : Int) := by omega
          have hp1 : (j : Int) < 20 := by omega
          have hlen : j < kwL.length := hj20
          have hmem : kwL.getD j ByteArray.empty ∈ kwL := by
            rw [List.getD, List.getElem?_eq_getElem hlen]
            exact List.getElem_mem hlen
          have hk := kw_lex hj20
          have hcell := hT.cell hlen
          obtain ⟨X, hX⟩ : ∃ X, kwL.getD j ByteArray.empty = X := ⟨_, rfl⟩
          rw [hX] at hk hcell hmem
          have hsz := kw_sz X hmem
          have hsz2 : ¬ 9223372036854775807 < 2 + X.size := by omega
          have cl := fun w hE => lex_out (⟨#[35, 10]⟩ ++ X) w hE
          rw [hk] at cl
          have hE9 := hE.below hB4 hE.1
          have HH := Lib.hid (And.intro hT (And.intro hA3 (And.intro hA5 (And.intro hA6 (And.intro hO4 hB4)))))
          clear hk hX hmem hsz hT hA3 hA5 hA6 hO4 hB4
          go_wp2_with fail
          refine (cl _ hE9).mono ?_
          rintro e w8 ⟨a8, cap8, rfl, hO8, hb8⟩
          clear cl hE9
          have hltg := World.block_lt_of_cell? wr _ hcell
          have hcell2 := (hb8.cell (p := ⟨g, j, none⟩) hltg).trans hcell
          go_wp2_with fail
          have hBB : Below w8.heap.size w8 (w8.alloc (.cells #[.int .i64 0, .int .i64 0] 25)) := (Below.refl _ w8).alloc (Nat.le_refl _) _
          have hO9 := hO8.below hBB
          have hBC := hb8.trans (hBB.mono hb8.size)
          obtain ⟨hT, hA3, hA5, hA6, hO4, hB4⟩ := HH.out
          have hc9 : ∀ n, Hid (Txts ((w8.alloc (.cells #[.int .i64 0, .int .i64 0] 25)).drewN n) g kwL ∧ Ps ((w8.alloc (.cells #[.int .i64 0, .int .i64 0] 25)).drewN n) ba3 (0, 0) ∧ Ps ((w8.alloc (.cells #[.int .i64 0, .int .i64 0] 25)).drewN n) ba5 (1, 2) ∧ Ps ((w8.alloc (.cells #[.int .i64 0, .int .i64 0] 25)).drewN n) ba6 (1, 1) ∧ LOut [⟨1, ⟨#[97, 98, 99, 100, 101, 102, 103, 104, 105, 106, 107, 108, 109, 110, 111, 112]⟩, 0, 1, 1⟩, ⟨2, ⟨#[50, 49, 52, 55, 52, 56, 51, 54, 52, 55]⟩, 2147483647, 1, 18⟩] a4 cap4 ((w8.alloc (.cells #[.int .i64 0, .int .i64 0] 25)).drewN n) ∧ Below w.heap.size w ((w8.alloc (.cells #[.int .i64 0, .int .i64 0] 25)).drewN n)) := fun n => by
            have hBD : Below wr.heap.size wr ((w8.alloc (.cells #[.int .i64 0, .int .i64 0] 25)).drewN n) := ⟨hBC.os, hBC.tape, hBC.output, hBC.size, hBC.block⟩
            exact Lib.hid ⟨hT.of (hBD.block _ hT.lt), hA3.below hBD hA3.lt, hA5.below hBD hA5.lt, hA6.below hBD hA6.lt, hO4.below hBD, hB4.trans (hBD.mono hB4.size)⟩
          have HC9 := Lib.hid hc9
          have hcell3 : (w8.alloc (.cells #[.int .i64 0, .int .i64 0] 25)).cell? ⟨g, j, none⟩ = some (.string X) := (hBB.cell (p := ⟨g, j, none⟩) (World.block_lt_of_cell? w8 _ hcell2)).trans hcell2
          obtain ⟨b8, off8, rfl, x0, x1, _, _, _⟩ := hO9.wds 0 (by simp)
          have y0 : (w8.alloc (.cells #[.int .i64 0, .int .i64 0] 25)).cell? ⟨b8, off8, none⟩ = some (.int .i64 3) := x0
          have y1 : (w8.alloc (.cells #[.int .i64 0, .int .i64 0] 25)).cell? ⟨b8, off8 + 1, none⟩ = some (.string X) := x1
          have hc8 : 1 ≤ cap8 := hO9.lc
          have hm8 := hO9.mx
          unfold maxLen at hm8
          clear hcell hcell2 x0 x1 hO8 hO9 hBB hBC hb8 hT hA3 hA5 hA6 hO4 hB4 HH hc9 hltg
          generalize w8.alloc (.cells #[.int .i64 0, .int .i64 0] 25) = W9 at *
          go_quiet ((go_at_call 14; exact Calls.quiet_of_same (num_q _ _)))
          rename_i nq
          have HD := HC9.out nq
          clear HC9 hcell3 y0 y1
          go_wp2
          go_roundw
          case rel => exact ⟨j + 1, by omega, by go_num, HD⟩
          case measure => simp [intOf]; omega
        · obtain rfl : j = 20 := by omega
          have a0 := hA3.c0
          have e0 := hA3.c1
          have b0 := hA5.c0
          have b1 := hA5.c1
          have d0 := hA6.c0
          have d1 := hA6.c1
          obtain ⟨b4, off4, rfl, _, _, x2, _, _⟩ := hO4.wds 1 (by decide)
          have y2 : wr.cell? ⟨b4, off4 + 5 + 2, none⟩ = some (.int .i64 2147483647) := x2
          have q1 := eqp_any 0 0 0 0
          have q2 := eqp_any 1 2 1 2
          have q3 := eqp_any 1 1 1 1
          have hE9 := hE.below hB4 hE.1
          have HB9 := Lib.hid hB4
          clear x2 hO4 hA3 hA5 hA6 hT hB4
          go_wp2_with (go_at_call 14; refine (num_any _ _).mono ?_; rintro e w' ⟨rfl, rfl⟩)
          refine (works_any _ hE9).mono ?_
          rintro e w10 ⟨rfl, hb10⟩
          have hBg := HB9.out.trans (hb10.mono HB9.out.size)
          go_wp2
          go_ret
          exact ⟨rfl, hBg⟩
end Go.Proofs.YtinfocnihngbiaaDoor
