/- The longest text, and one byte more. Asked: the program's tables are laid. -/
import Derived.Test.YtjmlmelcppbefaaGreatDoorT46
import Derived.Test.YtjmlmelcppbefaaGreatDoorBoundP
import Derived.Lib.SlBytesRow
import Derived.OwnWalk
import Derived.Lib.LazyBuf
namespace Go.Proofs.YtjmlmelcppbefaaGreatDoor
open Go.RowKit Go.Maps

theorem info5 : (Tryz.prog.info? 5).map (fun i => (i.zero, i.size, i.bytes)) = some (some (.int .u8 0), 1, 1) := by kernel_rfl
/-- The text: so many bytes of it. -/
def bdT (n : Nat) : ByteArray := ⟨(mutexB ++ List.replicate (n - 8) 32).toArray⟩
theorem bdT_size {n : Nat} (h : 8 ≤ n) : (bdT n).size = n := by
  show (mutexB ++ List.replicate (n - 8) (32 : UInt8)).toArray.size = n
  rw [List.size_toArray, List.length_append, List.length_replicate, show mutexB.length = 8 from rfl]
  omega
theorem bdT_list (n : Nat) : (bdT n).data.toList = mutexB ++ List.replicate (n - 8) 32 := rfl
theorem bdT_ext {n k : Nat} (h8 : 8 ≤ n) (h : n ≤ k) : (bdT k).extract 0 (0 + n) = bdT n := by
  refine ByteArray.ext (Array.ext' ?_)
  rw [ByteArray.data_extract, Array.toList_extract, List.extract_eq_take_drop]
  show ((mutexB ++ List.replicate (k - 8) (32 : UInt8)).drop 0).take (0 + n - 0) = mutexB ++ List.replicate (n - 8) 32
  rw [List.drop_zero, show 0 + n - 0 = n by omega, List.take_append, List.take_of_length_le (by show 8 ≤ n; exact h8), show mutexB.length = 8 from rfl, List.take_replicate, Nat.min_eq_left (by omega)]
theorem bdT_get {n i : Nat} (h : i < n) (h8 : 8 ≤ n) : (bdT n)[i]'(by rw [bdT_size h8]; exact h) = if i < 8 then mutexB.getD i 0 else 32 := by
  have e : (bdT n)[i]'(by rw [bdT_size h8]; exact h) = (mutexB ++ List.replicate (n - 8) (32 : UInt8))[i]'(by rw [List.length_append, List.length_replicate, show mutexB.length = 8 from rfl]; omega) := rfl
  rw [e]
  split
  · rename_i hi
    rw [List.getElem_append_left (show i < mutexB.length from hi), List.getD_eq_getElem?_getD, List.getElem?_eq_getElem (show i < mutexB.length from hi)]
    rfl
  · rename_i hi
    rw [List.getElem_append_right (show mutexB.length ≤ i by show 8 ≤ i; omega)]
    simp
theorem bytes_below {w w' : World} {B b : Nat} {s : ByteArray} (h : Lib.Bytes w b 0 s) (hb : Below B w w') (hB : w.heap.size ≤ B) : Lib.Bytes w' b 0 s := fun i hi => by
  have h1 := h i hi
  exact (hb.cell (p := ⟨b, 0 + i, none⟩) (Nat.lt_of_lt_of_le (World.block_lt_of_cell? w _ h1) hB)).trans h1

set_option maxRecDepth 100000 in
set_option maxHeartbeats 8000000 in
theorem bounds_any (w : World) (hW : Wf w) : Calls Tryz.prog 8 #[] w (Tru w) := by
  obtain ⟨i0, hi0, hz0, hz1, hz2⟩ := info_parts info5
  obtain ⟨N, hN⟩ : ∃ N : Nat, N = 65537 := ⟨_, rfl⟩
  have HN := Lib.hid hN
  have hn1 : (65536 : Int) ≤ (N : Int) := by omega
  have hn2 : (N : Int) ≤ 9223372036854775807 := by omega
  clear hN
  go_enter Tryz.func8, Tryz.ntmps8
  go_wp2_with (at_make; refine wpList_make_full _ rfl (.const (.int .i64 65537)) (.const (.int .i64 65537)) 41 rfl w.heap.size 5 i0 (.int .u8 0) 1 Tryz.underlying41 hi0 hz0 hz1 .i64 .i64 65537 65537 N rfl rfl ?c1 ?c2 ?c3 ?c4 ?c5 ?_)
  case c1 => have := HN.out; omega
  case c2 => have := HN.out; omega
  case c3 => have := HN.out; rw [hz2]; omega
  case c4 => have := HN.out; unfold maxLen; omega
  case c5 => exact Nat.le_refl _
  intro w1 hown hgr
  have hB := (Below.refl w.heap.size w).grown hgr (Nat.le_refl _) (fun r e => by cases e)
  have HO : Hid (∃ xs, w1.ownsRow w.heap.size 5 1 (.slice (some ⟨w.heap.size, 0, none⟩) N N) N xs ∧ ∀ i, i < 0 → xs[i]? = some (.int .u8 32)) := Lib.hid ⟨_, hown, fun i hi => by omega⟩
  clear hown hgr hi0 hz0 hz1 hz2
  go_wp2_with fail
  go_loopw [2] (fun i wr => ∃ k : Nat, k ≤ N ∧ i = .int .i64 k ∧ Hid (∃ xs, wr.ownsRow w.heap.size 5 1 (.slice (some ⟨w.heap.size, 0, none⟩) N N) N xs ∧ ∀ i, i < k → xs[i]? = some (.int .u8 32)) ∧ Hid (Below w.heap.size w wr)) (fun i _ => N - (intOf i).toNat)
  case atStart => exact ⟨0, Nat.zero_le _, rfl, HO, Lib.hid hB⟩
  case round =>
    clear HO hB
    obtain ⟨k, hk, rfl, HO, HB⟩ := hrel
    by_cases hkN : k < N
    · have hp0 : (0 : Int) ≤ (k : Int) := by omega
      have hp1 : (k : Int) < (N : Int) := by omega
      obtain ⟨xs, hown, hx⟩ := HO.out
      have hc := hown.cellAt k (by omega)
      have hlen : xs.length = N := by have := hown.1; omega
      rw [List.getElem?_eq_getElem (by omega)] at hc
      have hf := hown.frozenAt k
      obtain ⟨o1, b1⟩ := hown.stored k (.int .u8 32)
      have HO2 : Hid (∃ xs, (wr.setCell ⟨w.heap.size, k, none⟩ (.int .u8 32)).ownsRow w.heap.size 5 1 (.slice (some ⟨w.heap.size, 0, none⟩) N N) N xs ∧ ∀ i, i < k + 1 → xs[i]? = some (.int .u8 32)) := Lib.hid ⟨_, o1, fun i hi => by
        rw [List.getElem?_set]
        split
        · rename_i h
          rw [if_pos (by omega)]
        · exact hx i (by omega)⟩
      have HB2 : Hid (Below w.heap.size w (wr.setCell ⟨w.heap.size, k, none⟩ (.int .u8 32))) := Lib.hid (HB.out.setCell (p := ⟨w.heap.size, k, none⟩) (Nat.le_refl _) _)
      obtain ⟨old, hold⟩ : ∃ v, xs[k] = v := ⟨_, rfl⟩
      rw [hold] at hc
      clear hold o1 b1 hlen hx hown HO HB
      go_wp2
      go_roundw
      case rel => exact ⟨k + 1, by omega, by go_num, HO2, HB2⟩
      case measure => simp [intOf]; omega
    · obtain rfl : k = N := by omega
      obtain ⟨xs, hown, hx⟩ := HO.out
      have hlen : xs.length = k := by have := hown.1; omega
      have hcell : ∀ j, j < 8 → (wr.cell? ⟨w.heap.size, 0 + j, none⟩).isSome = true := fun j hj => by
        have := hown.cellAt j (by have := HN.out; omega)
        rw [Nat.zero_add, this, hx j (by have := HN.out; omega)]
        rfl
      have hfrz : ∀ j, j < 8 → wr.frozen? ⟨w.heap.size, 0 + j, none⟩ = false := fun j hj => by
        rw [Nat.zero_add]
        exact hown.frozenAt j
      have hcp := run_copy_string (P := Tryz.prog) wr 41 9 3 5 w.heap.size 0 k k ⟨#[109, 117, 116, 101, 120, 32, 109, 59]⟩ Tryz.underlying41 (fun w => by kernel_rfl) (by show 8 ≤ k; have := HN.out; omega) hcell hfrz
      obtain ⟨W2, hW2⟩ : ∃ W2, wr.setCells w.heap.size 0 ((⟨#[109, 117, 116, 101, 120, 32, 109, 59]⟩ : ByteArray).data.toList.map fun x => Value.int .u8 (x.toNat : Int)) = W2 := ⟨_, rfl⟩
      rw [hW2] at hcp
      have hB2 : Below w.heap.size w W2 := by
        rw [← hW2]
        exact below_setCells (Nat.le_refl _) _ _ _ HB.out
      have hby : Lib.Bytes W2 w.heap.size 0 (bdT k) := fun i hi => by
        have h65 := HN.out
        rw [bdT_size (by omega)] at hi
        rw [bdT_get hi (by omega), ← hW2]
        split
        · rename_i h8
          have hin := World.cell?_setCells_in w.heap.size (mutexB.map fun x => Value.int .u8 (x.toNat : Int)) 0 wr (fun j hj => hcell j (by simpa [mutexB] using hj)) i (by simpa [mutexB] using h8)
          refine hin.trans ?_
          rw [List.getElem_map, List.getD_eq_getElem?_getD, List.getElem?_eq_getElem (show i < mutexB.length from h8)]
          rfl
        · rename_i h8
          have hout := World.cell?_setCells_out w.heap.size (mutexB.map fun x => Value.int .u8 (x.toNat : Int)) 0 wr ⟨w.heap.size, 0 + i, none⟩ (fun _ _ => .inr (by simp [mutexB]; omega))
          refine hout.trans ?_
          have hc := hown.cellAt i (by omega)
          rw [Nat.zero_add, hc, hx i hi]
          rfl
      have hcv : ∀ n, 8 ≤ n → n ≤ k → ∀ W, Lib.Bytes W w.heap.size 0 (bdT k) → (convert 41 9 (.slice (some ⟨w.heap.size, 0, none⟩) n k)).run Tryz.prog W = .ok (.string (bdT n)) W := fun n h8 hn W hW => by
        have h := Lib.run_convert_window (P := Tryz.prog) W 41 5 9 Tryz.underlying41 Tryz.underlying5 Tryz.underlying9 w.heap.size 0 (bdT k) hW 0 n k (by rw [bdT_size (by omega)]; omega)
        rw [bdT_ext h8 hn] at h
        exact h
      have HCV := Lib.hid hcv
      obtain ⟨S1, hS1⟩ : ∃ S, S = bdT 65536 := ⟨_, rfl⟩
      have e1 : (convert 41 9 (.slice (some ⟨w.heap.size, 0, none⟩) 65536 k)).run Tryz.prog W2 = .ok (.string S1) W2 := by
        rw [hS1]
        exact HCV.out 65536 (by omega) (by have := HN.out; omega) W2 hby
      have hW2f := hW.below hB2
      have c1 := parse_any S1 W2 hW2f.e hW2f.o
      have hr1 := bounds_ok (s := S1) (n := 65528) (by rw [hS1, bdT_list]) (by rw [hS1, bdT_size (by omega)]; omega)
      generalize parseR S1 = R1 at c1 hr1
      obtain ⟨l1, ⟨x1, y1⟩, er1⟩ := R1
      obtain ⟨he1, hl1⟩ := hr1
      dsimp only at he1 hl1
      subst he1
      have HBY := Lib.hid (And.intro hby hB2)
      have HL1 := Lib.hid hl1
      clear hcv hW2 hown hx hlen hcell hfrz HO HB hby hB2 hW2f hS1 hl1
      go_wp2_with fail
      refine c1.mono ?_
      rintro e w2 ⟨hb1, a1, cap1, rfl, hroom1, -⟩
      dsimp only at hroom1 ⊢
      rw [HL1.out] at hroom1 ⊢
      clear c1 e1 hroom1 hcp
      have hBA1 : Below w2.heap.size w2 (w2.alloc (.cells #[.int .i64 x1, .int .i64 y1] 25)) := (Below.refl _ w2).alloc (Nat.le_refl _) _
      have hB3 := hb1.trans (hBA1.mono hb1.size)
      have hBy3 := bytes_below HBY.out.1 hB3 (Nat.le_refl _)
      have hB4 := HBY.out.2.trans (hB3.mono HBY.out.2.size)
      obtain ⟨S2, hS2⟩ : ∃ S, S = bdT k := ⟨_, rfl⟩
      have e2 : (convert 41 9 (.slice (some ⟨w.heap.size, 0, none⟩) k k)).run Tryz.prog (w2.alloc (.cells #[.int .i64 x1, .int .i64 y1] 25)) = .ok (.string S2) (w2.alloc (.cells #[.int .i64 x1, .int .i64 y1] 25)) := by
        rw [hS2]
        exact HCV.out k (by have := HN.out; omega) (Nat.le_refl _) _ hBy3
      have hW4f := hW.below hB4
      have c2 := parse_any S2 _ hW4f.e hW4f.o
      rw [bounds_bad (by rw [hS2, bdT_size (by have := HN.out; omega)]; have := HN.out; omega)] at c2
      have HB4 := Lib.hid hB4
      clear hS2 hb1 hBA1 hB3 hBy3 HBY HCV hB4 hW4f
      go_wp2_with fail
      refine c2.mono ?_
      rintro e w3 ⟨hb2, a2, cap2, rfl, -, -⟩
      dsimp only [List.length_nil]
      clear c2 e2
      have hB5 := HB4.out.trans (hb2.mono HB4.out.size)
      have hBA3 : Below w3.heap.size w3 (w3.alloc (.cells #[.int .i64 0, .int .i64 0] 25)) := (Below.refl _ w3).alloc (Nat.le_refl _) _
      have hA3 : Blk (w3.alloc (.cells #[.int .i64 0, .int .i64 0] 25)) w3.heap.size 25 [.int .i64 0, .int .i64 0] := Blk.new w3 25 _
      have hB6 := hB5.trans (hBA3.mono hB5.size)
      have b0 := hA3.cell 0
      have b1 := hA3.cell 1
      simp only [List.getElem?_cons_zero, List.getElem?_cons_succ] at b0 b1
      have q1 := eqp_any 0 0 0 0
      simp only [beq_self_eq_true, Bool.and_self] at q1
      have HW6 := Lib.hid (hW.below hB6)
      have HB6 := Lib.hid hB6
      clear hb2 hB5 hBA3 hA3 HB4 hB6 hn1 hn2 hk hkN
      go_wp2_with (go_at_call 19; refine (num_any _ _).mono ?_; rintro e w' ⟨rfl, rfl⟩)
      refine (works_any _ HW6.out).mono ?_
      rintro e w4 ⟨rfl, hb5⟩
      have hB7 := HB6.out.trans (hb5.mono HB6.out.size)
      go_wp2
      go_ret
      exact ⟨rfl, hB7⟩
end Go.Proofs.YtjmlmelcppbefaaGreatDoor
