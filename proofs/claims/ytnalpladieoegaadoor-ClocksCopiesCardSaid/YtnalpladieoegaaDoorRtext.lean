/- A clock's text, by the reference. Asked: the parts are int64s, and the table of powers of ten is laid. -/
import Derived.Test.YtnalpladieoegaaDoorText
namespace Go.Proofs.YtnalpladieoegaaDoor
open Go.RowKit Go.Shelf

/-- The last part that is not 0 among the first k; 0 if there is none. -/
def lk (c : Ck) (k : Nat) : Nat := manyP c (upto k) - 1
theorem lk_0 (c : Ck) : lk c 0 = 0 := rfl
theorem lk_z {c : Ck} {k : Nat} (h : k < 8) (hz : c k = 0) : lk c (k + 1) = lk c k := by
  unfold lk; rw [upto_succ h, manyP_snoc, if_pos hz]
theorem lk_n {c : Ck} {k : Nat} (h : k < 8) (hz : c k ≠ 0) : lk c (k + 1) = k := by
  unfold lk; rw [upto_succ h, manyP_snoc, if_neg hz]; rfl
theorem lk_8 (c : Ck) : lk c 8 + 1 = many c := by
  have h := manyP_le c (List.finRange 8)
  unfold lk many
  rw [upto_all]
  omega
theorem lk_le (c : Ck) (k : Nat) : lk c k ≤ 7 := by
  have h := manyP_le c (upto k)
  unfold lk
  omega
/-- The text of the first k parts. -/
def pj (c : Ck) (k : Nat) : List UInt8 := Lib.join ((List.range k).map fun i => Lib.itoa (c i)) [32]
theorem join_snoc (x : List UInt8) (xs : List (List UInt8)) (y : List UInt8) : Lib.join (x :: xs ++ [y]) [32] = Lib.join (x :: xs) [32] ++ ([32] ++ y) := by
  rw [List.cons_append, Lib.join_cons, Lib.join_cons]
  simp [Lib.joinTail]
theorem pj_0 (c : Ck) : pj c 0 = [] := rfl
theorem pj_1 (c : Ck) : pj c 1 = Lib.itoa (c 0) := Lib.join_one _ _
theorem pj_succ (c : Ck) (k : Nat) : pj c (k + 1 + 1) = pj c (k + 1) ++ ([32] ++ Lib.itoa (c (k + 1))) := by
  unfold pj
  rw [List.range_succ (n := k + 1), List.map_append, List.range_succ_eq_map, List.map_cons, List.map_cons, List.map_nil]
  exact join_snoc _ _ _
def pjB (c : Ck) (k : Nat) : ByteArray := ⟨(pj c k).toArray⟩
theorem pj_le {c : Ck} (hfit : Fit c) {k : Nat} (h : k ≤ 8) : (pjB c k).size ≤ 176 := by
  have := join_le ((List.range k).map fun i => Lib.itoa (c i)) (fun x hx => by
    obtain ⟨i, hi, rfl⟩ := List.mem_map.1 hx
    have hi' : i < 8 := Nat.lt_of_lt_of_le (List.mem_range.1 hi) h
    exact Lib.itoa_length_le _ (hfit i hi').1 (hfit i hi').2)
  rw [List.length_map, List.length_range] at this
  have e : (pjB c k).size = (pj c k).length := by simp [pjB, ByteArray.size]
  rw [e]
  unfold pj
  omega
theorem sw_le {n : Int} (h0 : -9223372036854775808 ≤ n) (h1 : n ≤ 9223372036854775807) : (sw n).size ≤ 21 := by
  have e : (sw n).size = (Lib.itoa n).length := by simp [sw, ByteArray.size]
  rw [e]
  exact Lib.itoa_length_le _ h0 h1
theorem app_eq (a b : List UInt8) : (⟨a.toArray⟩ : ByteArray) ++ ⟨b.toArray⟩ = ⟨(a ++ b).toArray⟩ := by
  apply ByteArray.ext
  simp [ByteArray.data_append]
theorem pjB_succ (c : Ck) {k : Nat} (h : 0 < k) : pjB c k ++ ⟨#[32]⟩ ++ sw (c k) = pjB c (k + 1) := by
  obtain ⟨j, rfl⟩ : ∃ j, k = j + 1 := ⟨k - 1, by omega⟩
  unfold pjB sw
  rw [show (⟨#[32]⟩ : ByteArray) = ⟨([32] : List UInt8).toArray⟩ from rfl, app_eq, app_eq, pj_succ, List.append_assoc]
theorem pjB_1 (c : Ck) : pjB c 0 ++ sw (c 0) = pjB c (0 + 1) := by
  unfold pjB sw
  rw [app_eq, pj_0, pj_1, List.nil_append]
theorem ret_str {a b : ByteArray} (h : a = b) : Ending.returned (.string a) = .returned (.string b) := by rw [h]
theorem txt_pj (c : Ck) : txt c = pjB c (many c) := rfl

set_option maxHeartbeats 1000000 in
theorem rtext_any (c : Ck) (hfit : Fit c) (w : World) (ht : Tab w) (hw0 : 0 < w.heap.size) : Calls Tryd.prog 17 #[.agg (cl c)] w fun e w' => e = .returned (.string (txt c)) ∧ Below w.heap.size w w' := by
  have hA := Blk.new w 23 c
  have hB : Below w.heap.size w (w.alloc (.cells (cl c) 23)) := (Below.refl _ w).alloc (Nat.le_refl _) _
  go_enter Tryd.func17, Tryd.ntmps17
  go_wp2
  change Code.wp _ _ _ _ (w.alloc (.cells (cl c) 23))
  generalize w.alloc (.cells (cl c) 23) = W at *
  go_loop [3, 4] (fun l i => ∃ k : Nat, k ≤ 8 ∧ i = .int .i64 k ∧ l = .int .i64 (lk c k : Int)) (fun _ i => 8 - (intOf i).toNat)
  case atStart => exact ⟨0, by omega, rfl, rfl⟩
  case round =>
    obtain ⟨k, hk, rfl, rfl⟩ := hrel
    by_cases hlt : k < 8
    · have hc := hA.cell hlt
      by_cases hz : c k = 0
      · have hzb : (c k != 0) = false := by rw [hz]; rfl
        have HL := Lib.hid (lk_z hlt hz)
        clear hz
        go_wp2
        go_round
        case rel => exact ⟨k + 1, by omega, by go_num, by rw [HL.out]⟩
        case measure => simp [intOf]; omega
      · have hzb : (c k != 0) = true := by simpa using hz
        have HL := Lib.hid (lk_n hlt hz)
        clear hz
        go_wp2
        go_round
        case rel => exact ⟨k + 1, by omega, by go_num, by rw [HL.out]⟩
        case measure => simp [intOf]; omega
    · obtain rfl : k = 8 := by omega
      have hl7 := lk_le c 8
      have HL8 := Lib.hid (lk_8 c)
      go_wp2
      go_loopw [5, 6] (fun o i wr => ∃ k : Nat, k ≤ lk c 8 + 1 ∧ i = .int .i64 k ∧ o = .string (pjB c k) ∧ Blk wr w.heap.size 23 c ∧ Below w.heap.size w wr) (fun _ i _ => 9 - (intOf i).toNat)
      case atStart => exact ⟨0, by omega, rfl, rfl, hA, hB⟩
      case round =>
        obtain ⟨k, hk, rfl, rfl, hA, hB⟩ := hrel
        by_cases hlt : k ≤ lk c 8
        · have hk8 : k < 8 := by omega
          have hc := hA.cell hk8
          obtain ⟨b0, b1⟩ := hfit k hk8
          have HB : Hid (-9223372036854775808 ≤ c k ∧ c k ≤ 9223372036854775807) := ⟨b0, b1⟩
          clear b0 b1
          have hT : Tab wr := ht.below hB hw0
          have hps := pj_le hfit (k := k) (by omega)
          have hss := sw_le HB.out.1 HB.out.2
          by_cases h0 : 0 < k
          · have HS := Lib.hid (pjB_succ c h0)
            go_wp2_with (go_at_call 45; refine (fi_any (c k) HB.out.1 HB.out.2 _ hT).mono ?_; rintro e w' ⟨rfl, hb⟩)
            exact ⟨⟨k + 1, by omega, by go_num, by rw [HS.out], hA.below hb hA.lt, hB.trans (hb.mono hB.size)⟩, by simp [intOf]; omega⟩
          · obtain rfl : k = 0 := by omega
            have HS := Lib.hid (pjB_1 c)
            go_wp2_with (go_at_call 45; refine (fi_any (c 0) HB.out.1 HB.out.2 _ hT).mono ?_; rintro e w' ⟨rfl, hb⟩)
            exact ⟨⟨0 + 1, by omega, by go_num, by rw [HS.out], hA.below hb hA.lt, hB.trans (hb.mono hB.size)⟩, by simp [intOf]⟩
        · obtain rfl : k = lk c 8 + 1 := by omega
          have HS : Hid (txt c = pjB c (lk c 8 + 1)) := by rw [txt_pj, lk_8]; exact rfl
          go_wp2
          go_ret
          exact ⟨ret_str HS.out.symm, hB⟩
end Go.Proofs.YtnalpladieoegaaDoor
