/- What the syntax texts share, part 5. No condition. -/
import Derived.Lib.SlicesS
import Derived.Test.YtjmlmelcppbefaaGreatDoorT04
namespace Go.Proofs.YtjmlmelcppbefaaGreatDoor
open Go.RowKit Go.Maps
def isKw (t : List UInt8) : Bool := kwL.any fun s => s.data.toList == t
def isSg (t : List UInt8) : Bool := sgL.any fun s => s.data.toList == t
theorem lastOf_pos (ss : List ByteArray) (t : List UInt8) (k : Nat) (hk : k ≤ ss.length) : decide (0 < lastOf ss t k) = (ss.take k).any fun s => s.data.toList == t := by
 induction k with
 | zero => simp [lastOf]
 | succ k ih =>
  have ih := ih (by omega)
  rw [List.take_add_one, List.any_append, ← ih]
  have h' : k < ss.length := by omega
  rw [List.getElem?_eq_getElem h']
  have e : ss.getD k ByteArray.empty = ss[k] := by rw [List.getD, List.getElem?_eq_getElem h']; rfl
  have e1 : lastOf ss t (k + 1) = if (ss.getD k ByteArray.empty).data.toList = t then (k : Int) + 1 else lastOf ss t k := rfl
  rw [e1, e]
  by_cases h : (ss[k]).data.toList = t
  ·rw [if_pos h, decide_eq_true (by omega)]
   simp [h]
  ·rw [if_neg h]
   simp [h]
theorem kw_pos (t : List UInt8) : decide (0 < lastOf kwL t 20) = isKw t := lastOf_pos kwL t 20 (by decide)
theorem sg_pos (t : List UInt8) : decide (0 < lastOf sgL t 20) = isSg t := lastOf_pos sgL t 20 (by decide)
set_option maxHeartbeats 1000000 in
theorem keyword_any (s : ByteArray) (w : World) (hs : s.size ≤ 4294967296) : Calls Tryz.prog 132 #[.string s] w fun e w' => e = .returned (.bool (isKw s.data.toList)) ∧ Below w.heap.size w w' := by
 obtain ⟨R, hR0⟩ : ∃ R, isKw s.data.toList = R := ⟨_, rfl⟩
 rw [hR0]
 go_enter Tryz.func132, Tryz.ntmps132
 go_wp2_with fail
 refine (keywords_any w).mono ?_
 rintro e w1 ⟨g, rfl, hown, hb, _⟩
 obtain ⟨c, hrun, hat, _⟩ := hown.lookup_int law Tryz.underlying124 Tryz.underlying3 (zero3 _) (Go.WideMaps.keyOf_string_mk Tryz.underlying9 (s := s) (Nat.le_trans hs (by decide)))
 rw [lst_at] at hat
 have hc : lastOf kwL s.data.toList 20 = c := by simpa using hat
 have hk := kw_pos s.data.toList
 rw [hc] at hk
 clear hat hown hc
 rw [hR0] at hk
 clear hR0
 go_wp2
 go_ret
 exact ⟨rfl, hb⟩
end Go.Proofs.YtjmlmelcppbefaaGreatDoor
