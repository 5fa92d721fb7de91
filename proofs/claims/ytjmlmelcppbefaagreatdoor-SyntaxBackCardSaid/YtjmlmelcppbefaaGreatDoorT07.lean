/- What the syntax texts share, part 7. No condition. -/
import Derived.Lib.AtoiErrMem
import Derived.Lib.IfaceNeq
import Derived.Test.YtjmlmelcppbefaaGreatDoorT05
import Derived.Test.YtjmlmelcppbefaaGreatDoorT06
namespace Go.Proofs.YtjmlmelcppbefaaGreatDoor
open Go.RowKit
def fv (acc : Nat) : List UInt8 → Nat
 | [] => acc
 | c :: r => fv (acc * 10 + (c.toNat - 48)) r
theorem fv_ge (l : List UInt8) : ∀ acc, acc ≤ fv acc l := by
 induction l with
 | nil => intro acc; exact Nat.le_refl _
 | cons c r ih =>
  intro acc
  have := ih (acc * 10 + (c.toNat - 48))
  unfold fv
  omega
theorem dig_range {c : UInt8} (h : isDig c = true) : 48 ≤ c.toNat ∧ c.toNat ≤ 57 := by
 simpa [isDig] using h
theorem pm_dig (l : List UInt8) (hl : ∀ c ∈ l, isDig c = true) : ∀ acc, Lib.parseUintM 18446744073709551615 acc l = .ok (fv acc l) ∨ (Lib.parseUintM 18446744073709551615 acc l = .range ∧ 9223372036854775807 < fv acc l) := by
 induction l with
 | nil => intro acc; exact .inl rfl
 | cons c r ih =>
  intro acc
  have hc := dig_range (hl c (List.mem_cons_self ..))
  have hr := ih (fun x hx => hl x (List.mem_cons_of_mem _ hx)) (acc * 10 + (c.toNat - 48))
  have hge := fv_ge r (acc * 10 + (c.toNat - 48))
  unfold Lib.parseUintM fv
  rw [if_pos hc]
  split
  ·exact .inr ⟨rfl, by omega⟩
  ·split
   ·exact .inr ⟨rfl, by omega⟩
   ·exact hr
theorem pi_dig {l : List UInt8} (hne : l ≠ []) (hl : ∀ c ∈ l, isDig c = true) : Lib.parseIntB 64 l = .ok (fv 0 l : Int) ∨ (Lib.parseIntB 64 l = .range ∧ 2147483647 < fv 0 l) := by
 match l, hne with
 | c :: r, _ =>
  have hc := dig_range (hl c (List.mem_cons_self ..))
  have h43 : ¬ (c.toNat = 43 ∨ c.toNat = 45) := by omega
  have h45 : ¬ (c.toNat = 45) := by omega
  have hp := pm_dig (c :: r) hl 0
  unfold Lib.parseIntB Lib.parseUintB
  have e : (2 ^ 64 - 1 : Nat) = 18446744073709551615 := by decide
  have e2 : ¬ (c :: r = []) := by simp
  simp only [if_neg h43, if_neg e2, e]
  simp only [h45]
  rcases hp with hp | ⟨hp, hv⟩
  ·rw [hp]
   by_cases h : 9223372036854775808 ≤ fv 0 (c :: r)
   ·right
    simp [h]
    omega
   ·left
    simp [h]
  ·rw [hp]
   exact .inr ⟨rfl, by omega⟩
def numP (t : List UInt8) : Int × Bool := if (1 < t.length ∧ t.head? = some 48) ∨ 2147483647 < fv 0 t then (0, false) else (fv 0 t, true)
def ErrR (w : World) : Prop := 7 < w.heap.size ∧ ∃ te pe, w.cell? ⟨7, 0, none⟩ = some (.iface te pe)
theorem ErrR.below {w w' : World} {B : Nat} (h : ErrR w) (hb : Below B w w') (hB : 7 < B) : ErrR w' := by
 obtain ⟨h1, te, pe, hc⟩ := h
 exact ⟨Nat.lt_of_lt_of_le h1 hb.size, te, pe, (hb.cell (p := ⟨7, 0, none⟩) hB).trans hc⟩
set_option maxRecDepth 100000 in
set_option maxHeartbeats 2000000 in
theorem number_any (s : ByteArray) (w : World) (hs : s.size ≤ 4294967296) (hne : 0 < s.size) (hd : ∀ c ∈ s.data.toList, isDig c = true) (hE : ErrR w) :
  Calls Tryz.prog 145 #[.string s] w fun e w' => e = .returned (.tuple #[.int .i64 (numP s.data.toList).1, .bool (numP s.data.toList).2]) ∧ Below w.heap.size w w' := by
 have hl := size_list s
 have hb0 := byte_at hne
 obtain ⟨c, hc⟩ : ∃ c, byte s 0 = c := ⟨_, rfl⟩
 have hhead : s.data.toList.head? = some c := by
  rw [← hc, ← List.drop_zero (l := s.data.toList), drop_byte hne]
  rfl
 rw [hc] at hb0
 have hnn : s.data.toList ≠ [] := by
  intro h
  rw [h] at hhead
  cases hhead
 have hp := pi_dig hnn hd
 obtain ⟨v, hv⟩ : ∃ v, fv 0 s.data.toList = v := ⟨_, rfl⟩
 rw [hv] at hp
 have hn : numP s.data.toList = if (1 < s.size ∧ c = 48) ∨ 2147483647 < v then (0, false) else ((v : Int), true) := by
  unfold numP
  rw [hl, hhead, hv]
  simp
 rw [hn]
 obtain ⟨r, hr⟩ : ∃ r, ((c.toNat : Int) == 48) = r := ⟨_, rfl⟩
 have hr1 : r = true → c = 48 := fun h => by
  rw [h, beq_iff_eq] at hr
  have h' : c.toNat = 48 := by omega
  exact UInt8.toNat_inj.1 (by simpa using h')
 have hr2 : r = false → c ≠ 48 := fun h e => by
  rw [e, h] at hr
  simp at hr
 have HP := Lib.hid hp
 clear hp hn hv hhead hc hl hnn
 have hz : (0 : Int) < (s.size : Int) := by omega
 have key : ¬ (1 < s.size ∧ c = 48) → Calls Tryz.prog 163 #[.string s, .int .i64 10, .int .i64 64] w (fun e w' => ((e = .returned (.tuple #[.int .i64 (v : Int), .nilIface]) ∨ (2147483647 < v ∧ ∃ N x, e = .returned (.tuple #[.int .i64 x, .iface 235 (.pointer (some ⟨N, 0, none⟩))])) ) ∧ Below w.heap.size w w')) := fun _ => by
  rcases HP.out with h | ⟨h, hv⟩
  ·refine (Tryz.strconv_ParseInt_10_at64_ok s (by omega) v h w).mono ?_
   rintro e w' ⟨rfl, hw⟩
   refine ⟨.inl rfl, ?_⟩
   rcases hw with rfl | ⟨t, rfl⟩
   ·exact Below.refl _ _
   ·exact Lib.bytesWorld_below w 5 t
  ·obtain ⟨_, te, pe, hcell⟩ := hE
   refine (Tryz.strconv_ParseInt_10_at64_range s (by omega) h _ w hcell (.inr ⟨te, pe, rfl⟩)).mono ?_
   rintro e w' ⟨N, rfl, _, _, hb⟩
   exact ⟨.inr ⟨hv, N, _, rfl⟩, hb⟩
 by_cases h1 : 1 < s.size
 ·have i1 : (1 : Int) < (s.size : Int) := by omega
  cases r
  ·have hno : ¬ (1 < s.size ∧ c = 48) := fun h => hr2 rfl h.2
   have hk := key hno
   have e2 : ((1 < s.size ∧ c = 48) ∨ 2147483647 < v) ↔ 2147483647 < v := ⟨fun h => h.resolve_left hno, .inr⟩
   simp only [e2]
   have HR := Lib.hid hno
   clear hno hr1 hr2 key e2
   go_enter Tryz.func145, Tryz.ntmps145
   go_wp2_with fail
   refine hk.mono ?_
   clear hk
   rintro e w' ⟨h, hb⟩
   rcases h with rfl | ⟨hv, N, x, rfl⟩
   ·by_cases hv : 2147483647 < v
    ·have hvi : (2147483647 : Int) < (v : Int) := by omega
     go_wp2
     go_ret2
     exact ⟨rfl, hb⟩
    ·have hvi : ¬ (2147483647 : Int) < (v : Int) := by omega
     go_wp2
     go_ret2
     exact ⟨rfl, hb⟩
   ·go_wp2
    go_ret2
    exact ⟨rfl, hb⟩
  ·have hc : c = 48 := hr1 rfl
   rw [if_pos (.inl ⟨h1, hc⟩)]
   clear key hr1 hr2 hc
   go_enter Tryz.func145, Tryz.ntmps145
   go_wp2
   go_ret2
   exact ⟨rfl, Below.refl _ _⟩
 ·have i1 : ¬ (1 : Int) < (s.size : Int) := by omega
  have hno : ¬ (1 < s.size ∧ c = 48) := fun h => h1 h.1
  have hk := key hno
  have e2 : ((1 < s.size ∧ c = 48) ∨ 2147483647 < v) ↔ 2147483647 < v := ⟨fun h => h.resolve_left hno, .inr⟩
  simp only [e2]
  clear hno hr1 hr2 key e2
  go_enter Tryz.func145, Tryz.ntmps145
  go_wp2_with fail
  refine hk.mono ?_
  clear hk
  rintro e w' ⟨h, hb⟩
  rcases h with rfl | ⟨hv, N, x, rfl⟩
  ·by_cases hv : 2147483647 < v
   ·have hvi : (2147483647 : Int) < (v : Int) := by omega
    go_wp2
    go_ret2
    exact ⟨rfl, hb⟩
   ·have hvi : ¬ (2147483647 : Int) < (v : Int) := by omega
    go_wp2
    go_ret2
    exact ⟨rfl, hb⟩
  ·go_wp2
   go_ret2
   exact ⟨rfl, hb⟩
end Go.Proofs.YtjmlmelcppbefaaGreatDoor
