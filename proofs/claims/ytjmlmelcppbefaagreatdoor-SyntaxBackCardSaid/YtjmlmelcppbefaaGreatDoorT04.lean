/- What the syntax texts share, part 4. No condition. -/
import Derived.Test.YtjmlmelcppbefaaGreatDoorT02
import Derived.Test.YtjmlmelcppbefaaGreatDoorT03
namespace Go.Proofs.YtjmlmelcppbefaaGreatDoor
open Go.RowKit Go.Maps
def Rea (s : ByteArray) (w : World) (e : Ending) (w' : World) : Prop :=
 ∃ b gk gs, e = .returned (.pointer (some ⟨b, 0, none⟩)) ∧ Rd w' b s 0 (.map (some gk)) (.map (some gs)) ∧ w'.ownsMap Tryz.prog 9 (plainElem Tryz.prog 3) gk 20 (Lst kwL 20) ∧ w'.ownsMap Tryz.prog 9 (plainElem Tryz.prog 3) gs 20 (Lst sgL 20) ∧ Below w.heap.size w w' ∧ w.heap.size ≤ b ∧ b ≠ gk ∧ b ≠ gs
theorem owns_below {w w' : World} {B g n : Nat} {D : DataW Unit} (h : w.ownsMap Tryz.prog 9 (plainElem Tryz.prog 3) g n D) (hb : Below B w w') (hlt : g < B) : w'.ownsMap Tryz.prog 9 (plainElem Tryz.prog 3) g n D := by
 obtain ⟨es, clock, h1, h2⟩ := h
 exact ⟨es, clock, (hb.block g hlt).trans h1, h2⟩
theorem owns_keep {w w' : World} {a b g n : Nat} {D : DataW Unit} (h : w.ownsMap Tryz.prog 9 (plainElem Tryz.prog 3) g n D) (hk : Kp w w' a b) (h1 : g ≠ a) (h2 : g ≠ b) : w'.ownsMap Tryz.prog 9 (plainElem Tryz.prog 3) g n D := by
 have hlt := h.lt
 obtain ⟨es, clock, h3, h4⟩ := h
 exact ⟨es, clock, (hk.block g hlt h1 h2).trans h3, h4⟩
set_option maxRecDepth 100000 in
set_option maxHeartbeats 1000000 in
theorem read_any (s : ByteArray) (w : World) : Calls Tryz.prog 62 #[.string s] w (Rea s w) := by
 go_enter Tryz.func62, Tryz.ntmps62
 go_wp2_with fail
 refine (keywords_any w).mono ?_
 rintro e w1 ⟨gk, rfl, hk1, hb1, q1⟩
 go_wp2_with fail
 refine (signs_any w1).mono ?_
 rintro e w2 ⟨gs, rfl, hs2, hb2, q2⟩
 have hk2 := owns_below hk1 hb2 hk1.lt
 have hB2 : Below w.heap.size w w2 := hb1.trans (hb2.mono hb1.size)
 have sz := hB2.size
 have hBB : Below w2.heap.size w2 (w2.alloc (.cells #[.int .i64 1, .int .i64 1, .string s, .int .i64 0, .map (some gk), .map (some gs)] 126)) := (Below.refl _ w2).alloc (Nat.le_refl _) _
 have hR : Rd (w2.alloc (.cells #[.int .i64 1, .int .i64 1, .string s, .int .i64 0, .map (some gk), .map (some gs)] 126)) w2.heap.size s 0 (.map (some gk)) (.map (some gs)) := World.alloc_heap_new _ _
 have l1 := hk2.lt
 have l2 := hs2.lt
 have hk3 := owns_below hk2 hBB l1
 have hs3 := owns_below hs2 hBB l2
 have hB3 := hB2.trans (hBB.mono sz)
 clear hk1 hb1 hb2 hk2 hs2 hB2 hBB
 go_wp2
 go_ret
 exact ⟨w2.heap.size, gk, gs, rfl, hR, hk3, hs3, hB3, sz, by omega, by omega⟩
theorem endOf_ge (f : UInt8 → Bool) (s : ByteArray) (k : Nat) : k ≤ endOf f s k := by unfold endOf; omega
theorem hash_on {s : ByteArray} {k : Nat} (hk : k < s.size) (h : (byte s k).toNat = 35) : k + 1 ≤ endOf isNoNl s k := by
 rw [← endOf_yes hk (by unfold isNoNl; rw [h]; rfl)]
 exact endOf_ge _ _ _
def gapAt (s : ByteArray) (k : Nat) : Nat :=
 if _h : endOf isBl s k < s.size ∧ (byte s (endOf isBl s k)).toNat = 35 then gapAt s (endOf isNoNl s (endOf isBl s k)) else endOf isBl s k
termination_by s.size - k
decreasing_by
 have h1 := hash_on _h.1 _h.2
 have h2 := endOf_ge isBl s k
 omega
theorem gap_hash {s : ByteArray} {k : Nat} (h1 : endOf isBl s k < s.size) (h2 : (byte s (endOf isBl s k)).toNat = 35) : gapAt s (endOf isNoNl s (endOf isBl s k)) = gapAt s k := by
 rw [gapAt.eq_def s k, dif_pos ⟨h1, h2⟩]
theorem gap_stop {s : ByteArray} {k : Nat} (h : ¬ (endOf isBl s k < s.size ∧ (byte s (endOf isBl s k)).toNat = 35)) : gapAt s k = endOf isBl s k := by
 rw [gapAt.eq_def s k, dif_neg h]
set_option maxRecDepth 100000 in
set_option maxHeartbeats 4000000 in
theorem gap_any {w : World} {b k : Nat} {s : ByteArray} {kw sg : Value} (hR : Rd w b s k kw sg) (hk : k ≤ s.size) (hs : s.size ≤ 4294967296) :
  Calls Tryz.prog 111 #[.pointer (some ⟨b, 0, none⟩)] w fun e w' => e = .returned (.bool (decide (gapAt s k < s.size))) ∧ Rd w' b s (gapAt s k) kw sg ∧ Kp w w' b b ∧ gapAt s k ≤ s.size := by
 obtain ⟨E, hE⟩ : ∃ E, gapAt s k = E := ⟨_, rfl⟩
 have HE := Lib.hid hE
 rw [hE]
 clear hE
 go_enter Tryz.func111, Tryz.ntmps111
 go_wp2_with fail
 go_loopg [] (s.size + 1 - k) (fun g wr => ∃ j : Nat, j ≤ s.size ∧ g = s.size + 1 - j ∧ Rd wr b s j kw sg ∧ Hid (gapAt s j = E) ∧ Kp w wr b b)
 case atStart => exact ⟨k, hk, rfl, hR, HE, Kp.refl _ _ _⟩
 case round =>
  clear hR
  obtain ⟨j, hj, rfl, hR, HJ, hK⟩ := hrel
  go_wp2_with fail
  refine (pass_bl hR hj hs).mono ?_
  rintro e w1 ⟨rfl, hR1, hk1⟩
  have hK1 := hK.trans hk1
  clear hR hK hk1
  have hle := endOf_le (f := isBl) hj
  obtain ⟨m, hm⟩ : ∃ m, endOf isBl s j = m := ⟨_, rfl⟩
  have HM := Lib.hid hm
  rw [hm] at hR1 hle ⊢
  clear hm
  have b2 := hR1.c2
  have b3 := hR1.c3
  by_cases hms : m < s.size
  ·have hz : (m : Int) < (s.size : Int) := by omega
   have hne : ((m : Int) == (s.size : Int)) = false := by
    rw [beq_eq_false_iff_ne]
    omega
   have hbt := byte_at hms
   obtain ⟨c, hc⟩ : ∃ c, byte s m = c := ⟨_, rfl⟩
   have HC := Lib.hid hc
   rw [hc] at hbt
   clear hc
   obtain ⟨r, hr⟩ : ∃ r, ((c.toNat : Int) == 35) = r := ⟨_, rfl⟩
   have hr2 : ((c.toNat : Int) != 35) = !r := by rw [← hr]; rfl
   have HRR := Lib.hid hr
   have HR1 := Lib.hid (show ∀ n, Rd (w1.drewN n) b s m kw sg from fun n => hR1)
   have HK1 := Lib.hid (show ∀ n, Kp w (w1.drewN n) b b from fun n => ⟨hK1.os, hK1.tape, hK1.output, hK1.size, hK1.block⟩)
   have HR3 := Lib.hid (show ∀ n k, Rd ((w1.drewN n).drewN k) b s m kw sg from fun n k => hR1)
   have HK3 := Lib.hid (show ∀ n k, Kp w ((w1.drewN n).drewN k) b b from fun n k => ⟨hK1.os, hK1.tape, hK1.output, hK1.size, hK1.block⟩)
   clear hR1 hK1
   have HH : Hid (r = true → (byte s m).toNat = 35) := fun h => by
    rw [HC.out]
    have h' := HRR.out
    rw [h, beq_iff_eq] at h'
    omega
   have HN : Hid (r = false → ¬ (byte s m).toNat = 35) := fun h h2 => by
    rw [HC.out] at h2
    have h' := HRR.out
    rw [h, beq_eq_false_iff_ne] at h'
    omega
   clear HRR
   cases r
   ·have hE2 : E = m := by
     rw [← HJ.out, ← HM.out]
     exact gap_stop (fun h => HN.out rfl (by have h2 := h.2; rw [HM.out] at h2; exact h2))
    have HE2 := Lib.hid hE2
    clear hE2 hr
    go_wp2_with fail
    go_quiet (fail)
    go_wp2_with fail
    go_quiet (fail)
    go_wp2
    go_ret
    rw [HE2.out]
    exact ⟨by rw [decide_eq_true hms]; rfl, HR3.out _ _, HK3.out _ _, by omega⟩
   ·have hE2 : gapAt s (endOf isNoNl s m) = E := by
     rw [← HJ.out, ← HM.out]
     exact gap_hash (by rw [HM.out]; exact hms) (by rw [HM.out]; exact HH.out rfl)
    have HE2 := Lib.hid hE2
    have hon := hash_on hms (HH.out rfl)
    have hle3 := endOf_le (f := isNoNl) (s := s) (k := m) hle.2
    clear hE2 hr
    go_wp2_with fail
    go_quiet (fail)
    go_wp2_with fail
    go_quiet (fail)
    go_wp2_with fail
    refine (pass_nonl (HR1.out _) hle.2 hs).mono ?_
    rintro e w2 ⟨rfl, hR2, hk2⟩
    have hK2 := (HK1.out _).trans hk2
    clear hk2
    go_wp2
    go_roundg (s.size + 1 - endOf isNoNl s m)
    case measure => omega
    case rel => exact ⟨endOf isNoNl s m, hle3.2, rfl, hR2, HE2, hK2⟩
  ·obtain rfl : m = s.size := by omega
   have hE2 : E = s.size := by
    rw [← HJ.out, ← HM.out]
    exact gap_stop (fun h => by have h1 := h.1; rw [HM.out] at h1; omega)
   have HE2 := Lib.hid hE2
   have HR1 := Lib.hid (show ∀ n, Rd (w1.drewN n) b s s.size kw sg from fun n => hR1)
   have HK1 := Lib.hid (show ∀ n, Kp w (w1.drewN n) b b from fun n => ⟨hK1.os, hK1.tape, hK1.output, hK1.size, hK1.block⟩)
   clear hR1 hK1 hE2
   go_wp2_with fail
   go_quiet (fail)
   go_wp2
   go_ret
   rw [HE2.out]
   exact ⟨by rw [decide_eq_false (Nat.lt_irrefl _)]; rfl, HR1.out _, HK1.out _, Nat.le_refl _⟩
end Go.Proofs.YtjmlmelcppbefaaGreatDoor
