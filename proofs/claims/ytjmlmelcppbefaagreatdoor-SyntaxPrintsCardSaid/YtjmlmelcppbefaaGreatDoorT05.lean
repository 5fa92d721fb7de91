/- What the syntax texts share, part 5. No condition. -/
import Derived.Lib.SlicesS
import Derived.Test.YtjmlmelcppbefaaGreatDoorT04
namespace Go.Proofs.YtjmlmelcppbefaaGreatDoor
open Go.RowKit Go.Maps
def isKw (t : List UInt8) : Bool := kwL.any fun s => s.data.toList == t
def isSg (t : List UInt8) : Bool := sgL.any fun s => s.data.toList == t
theorem lastOf_pos (ss : List ByteArray) (t : List UInt8) (k : Nat) (hk : k ≤ ss.length) : decide (0 < lastOf ss t k) = (ss.take k).any fun s => s.data.toList == t := by
 induction k with
 | zero => simp [lastOf]
 | succ k ih =>
  have ih := ih (by omega)
  rw [List.take_add_one, List.any_append, ← ih]
  have h' : k < ss.length := by omega
  rw [List.getElem?_eq_getElem h']
  have e : ss.getD k ByteArray.empty = ss[k] := by rw [List.getD, List.getElem?_eq_getElem h']; rfl
  have e1 : lastOf ss t (k + 1) = if (ss.getD k ByteArray.empty).data.toList = t then (k : Int) + 1 else lastOf ss t k := rfl
  rw [e1, e]
  by_cases h : (ss[k]).data.toList = t
  ·rw [if_pos h, decide_eq_true (by omega)]
   simp [h]
  ·rw [if_neg h]
   simp [h]
theorem kw_pos (t : List UInt8) : decide (0 < lastOf kwL t 20) = isKw t := lastOf_pos kwL t 20 (by decide)
theorem sg_pos (t : List UInt8) : decide (0 < lastOf sgL t 20) = isSg t := lastOf_pos sgL t 20 (by decide)
theorem same_bytes (x s : ByteArray) : (x.data.toList == s.data.toList) = (x.toList == s.toList) := by
 rw [Bool.eq_iff_iff, Lib.bytes_beq_iff, beq_iff_eq]
 constructor
 ·intro h
  exact ByteArray.ext (by simpa using h)
 ·intro h
  rw [h]
set_option maxHeartbeats 1000000 in
theorem keyword_any (s : ByteArray) (w : World) (hs : s.size ≤ 4294967296) : Calls Tryz.prog 132 #[.string s] w fun e w' => e = .returned (.bool (isKw s.data.toList)) ∧ Below w.heap.size w w' := by
 obtain ⟨R, hR0⟩ : ∃ R, isKw s.data.toList = R := ⟨_, rfl⟩
 rw [hR0]
 go_enter Tryz.func132, Tryz.ntmps132
 go_wp2_with fail
 refine (keywords_any w).mono ?_
 rintro e w1 ⟨g, rfl, hown, hb, _⟩
 obtain ⟨c, hrun, hat, _⟩ := hown.lookup_int law Tryz.underlying124 Tryz.underlying3 (zero3 _) (Go.WideMaps.keyOf_string_mk Tryz.underlying9 (s := s) (Nat.le_trans hs (by decide)))
 rw [lst_at] at hat
 have hc : lastOf kwL s.data.toList 20 = c := by simpa using hat
 have hk := kw_pos s.data.toList
 rw [hc] at hk
 clear hat hown hc
 rw [hR0] at hk
 clear hR0
 go_wp2
 go_ret
 exact ⟨rfl, hb⟩
set_option maxRecDepth 100000 in
set_option maxHeartbeats 1000000 in
theorem rwords_any (w : World) : Calls Tryz.prog 128 #[] w fun e w' => e = .returned (.slice (some ⟨w.heap.size, 0, none⟩) 20 20) ∧ w' = w.alloc (.cells (kwL.map Value.string).toArray 9) := by
 go_enter Tryz.func128, Tryz.ntmps128
 go_wp2
 go_ret
 exact ⟨rfl, rfl⟩
set_option maxRecDepth 100000 in
set_option maxHeartbeats 2000000 in
theorem rkeyword_any (s : ByteArray) (w : World) : Calls Tryz.prog 94 #[.string s] w fun e w' => e = .returned (.bool (isKw s.data.toList)) ∧ Below w.heap.size w w' := by
 have hT := txts_new w kwL
 have hB : Below w.heap.size w (w.alloc (.cells (kwL.map Value.string).toArray 9)) := (Below.refl _ w).alloc (Nat.le_refl _) _
 obtain ⟨R, hR⟩ : ∃ R, isKw s.data.toList = R := ⟨_, rfl⟩
 have HR := Lib.hid hR
 rw [hR]
 clear hR
 go_enter Tryz.func94, Tryz.ntmps94
 go_wp2_with fail
 refine (rwords_any w).mono ?_
 rintro e w1 ⟨rfl, rfl⟩
 generalize w.alloc (.cells (kwL.map Value.string).toArray 9) = W0 at *
 go_wp2_with fail
 go_loopw [4] (fun i wr => ∃ k : Nat, k ≤ 20 ∧ i = .int .i64 k ∧ W0 = wr ∧ Hid ((kwL.drop k).any (fun x => x.data.toList == s.data.toList) = R)) (fun i _ => 20 - (intOf i).toNat)
 case atStart => exact ⟨0, by omega, rfl, rfl, HR⟩
 case round =>
  obtain ⟨k, hk, rfl, rfl, HJ⟩ := hrel
  by_cases hlk : k < 20
  ·have hp0 : (0 : Int) ≤ (k : Int) := by omega
   have hp1 : (k : Int) < 20 := by omega
   have hlen : k < kwL.length := hlk
   obtain ⟨x, hx⟩ : ∃ x, kwL.getD k ByteArray.empty = x := ⟨_, rfl⟩
   have hcx : W0.cell? ⟨w.heap.size, k, none⟩ = some (.string x) := by
    rw [← hx]
    exact hT.cell hlen
   have hd : kwL.drop k = x :: kwL.drop (k + 1) := by
    rw [List.drop_eq_getElem_cons hlen, ← hx, List.getD, List.getElem?_eq_getElem hlen]
    rfl
   obtain ⟨q, hq⟩ : ∃ q, (x.toList == s.toList) = q := ⟨_, rfl⟩
   have hq2 : (x.data.toList == s.data.toList) = q := by
    rw [← hq]
    exact same_bytes x s
   have HQ := Lib.hid hq2
   have HD := Lib.hid hd
   clear hx hd hq2
   cases q
   ·have HJ2 := Lib.hid (show ((kwL.drop (k + 1)).any fun x => x.data.toList == s.data.toList) = R by rw [← HJ.out, HD.out, List.any_cons, HQ.out, Bool.false_or])
    go_wp2
    go_roundw
    case rel => exact ⟨k + 1, by omega, by go_num, trivial, HJ2⟩
    case measure => simp [intOf]; omega
   ·have hr : R = true := by rw [← HJ.out, HD.out, List.any_cons, HQ.out, Bool.true_or]
    subst hr
    go_wp2
    go_ret
    exact ⟨rfl, hB⟩
  ·obtain rfl : k = 20 := by omega
   have hr : R = false := by rw [← HJ.out]; rfl
   subst hr
   go_wp2
   go_ret
   exact ⟨rfl, hB⟩
end Go.Proofs.YtjmlmelcppbefaaGreatDoor
