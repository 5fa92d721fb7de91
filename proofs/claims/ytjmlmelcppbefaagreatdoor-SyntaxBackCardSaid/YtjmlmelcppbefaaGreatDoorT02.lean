/- What the syntax texts share, part 2. No condition. -/
import Derived.Deep.LoopGhost
import Derived.Deep.QuietTactic
import Derived.BigQuiet
import Derived.Test.YtjmlmelcppbefaaGreatDoorT01
namespace Go.Proofs.YtjmlmelcppbefaaGreatDoor
open Go.RowKit
def Pas (f : UInt8 → Bool) (w : World) (b : Nat) (s : ByteArray) (k : Nat) (kw sg : Value) (e : Ending) (w' : World) : Prop :=
 e = .returned (.string (s.extract k (endOf f s k))) ∧ Rd w' b s (endOf f s k) kw sg ∧ Kp w w' b b
def isAll (_ : UInt8) : Bool := true
set_option maxRecDepth 100000 in
set_option maxHeartbeats 8000000 in
theorem pass_bl {w : World} {b k : Nat} {s : ByteArray} {kw sg : Value} (hR : Rd w b s k kw sg) (hk : k ≤ s.size) (hs : s.size ≤ 4294967296) :
  Calls Tryz.prog 64 #[.pointer (some ⟨b, 0, none⟩), .func (.func 142) #[] #[]] w (Pas isBl w b s k kw sg) := by
 have b3 := hR.c3
 obtain ⟨E, hE⟩ : ∃ E, endOf isBl s k = E := ⟨_, rfl⟩
 have HE := Lib.hid hE
 have hle := endOf_le (f := isBl) hk
 rw [hE] at hle
 clear hE
 go_enter Tryz.func64, Tryz.ntmps64
 go_wp2_with fail
 clear b3
 go_loopg [] (s.size - k) (fun g wr => ∃ j : Nat, k ≤ j ∧ j ≤ s.size ∧ g = s.size - j ∧ Rd wr b s j kw sg ∧ Hid (endOf isBl s j = E) ∧ Kp w wr b b)
 case atStart => exact ⟨k, Nat.le_refl _, hk, rfl, hR, HE, Kp.refl _ _ _⟩
 case round =>
  clear hR
  obtain ⟨j, hkj, hj, rfl, hR, HJ, hK⟩ := hrel
  have b2 := hR.c2
  have b3 := hR.c3
  by_cases hjs : j < s.size
  ·have hz : (j : Int) < (s.size : Int) := by omega
   have hbt := byte_at hjs
   obtain ⟨c, hc⟩ : ∃ c, byte s j = c := ⟨_, rfl⟩
   have HC := Lib.hid hc
   rw [hc] at hbt
   clear hc
   obtain ⟨q, hf⟩ : ∃ q, isBl c = q := ⟨_, rfl⟩
   have HF := Lib.hid hf
   have cq : ∀ W, Calls Tryz.prog 142 #[.int .u8 (c.toNat : Int)] W fun e w' => e = .returned (.bool q) ∧ w' = W := fun W => (blank_any c W).mono fun e w' h => ⟨by rw [h.1]; rw [hf], h.2.symm⟩
   clear hf
   go_wp2_with fail
   go_quiet ((go_at_call 142; exact Calls.quiet_of_same (cq _)))
   rename_i nq
   obtain ⟨W1, hW1⟩ : ∃ W, wr.drewN nq = W := ⟨_, rfl⟩
   have hR1 : Rd W1 b s j kw sg := by rw [← hW1]; exact hR
   have hK1 : Kp w W1 b b := by rw [← hW1]; exact ⟨hK.os, hK.tape, hK.output, hK.size, hK.block⟩
   rw [hW1]
   clear hW1 hR hK b2 b3 cq
   have b2 := hR1.c2
   have b3 := hR1.c3
   cases q
   ·have hj2 : endOf isBl s j = j := endOf_no hjs (by rw [HC.out]; exact HF.out)
    obtain rfl : E = j := by rw [← HJ.out, hj2]
    clear hj2
    have hkz : (k : Int) ≤ (E : Int) := by omega
    have hez : (E : Int) ≤ (s.size : Int) := by omega
    go_wp2_with fail
    go_quiet (fail)
    go_wp2
    go_ret
    unfold Pas
    rw [HE.out]
    exact ⟨rfl, hR1, ⟨hK1.os, hK1.tape, hK1.output, hK1.size, hK1.block⟩⟩
   ·have hj2 : endOf isBl s (j + 1) = E := by rw [← HJ.out]; exact endOf_yes hjs (by rw [HC.out]; exact HF.out)
    have HJ2 := Lib.hid hj2
    clear hj2
    obtain ⟨r, hr⟩ : ∃ r, ((c.toNat : Int) == 10) = r := ⟨_, rfl⟩
    have HRr := Lib.hid hr
    go_wp2_with fail
    go_quiet (fail)
    have hR2 : ∀ n, Rd (W1.drewN n) b s j kw sg := fun n => hR1
    have hK2 : ∀ n, Kp w (W1.drewN n) b b := fun n => ⟨hK1.os, hK1.tape, hK1.output, hK1.size, hK1.block⟩
    clear b2 b3 hr hK1
    have hle2 := posAt_le s j
    have b0 := hR1.c0
    have b1 := hR1.c1
    have b3 := hR1.c3
    have f0 := hR1.frozen 0
    have f1 := hR1.frozen 1
    have f3 := hR1.frozen 3
    have hline := fun n => (hR2 n).line
    have hcol := fun n => (hR2 n).col
    have HK2 := Lib.hid hK2
    clear hK2
    obtain ⟨l, hl⟩ : ∃ l, (posAt s j).1 = l := ⟨_, rfl⟩
    obtain ⟨m, hm⟩ : ∃ m, (posAt s j).2 = m := ⟨_, rfl⟩
    rw [hl] at hline b0 hle2
    rw [hm] at hcol b1 hle2
    have HLN := Lib.hid hline
    have HCL := Lib.hid hcol
    clear hl hm hline hcol hR2 hR1
    cases r
    ·have h10 : byte s j ≠ 10 := by
      rw [HC.out]
      intro h
      have h' := HRr.out
      rw [h] at h'
      simp at h'
     have H10 := Lib.hid h10
     clear h10
     go_wp2
     go_roundg (s.size - (j + 1))
     case measure => omega
     case rel => exact ⟨j + 1, by omega, by omega, rfl, HCL.out _ H10.out, HJ2, ((HK2.out _).setA 1 _).setA 3 _⟩
    ·have h10 : byte s j = 10 := by
      rw [HC.out]
      have h' := HRr.out
      rw [beq_iff_eq] at h'
      have h'' : c.toNat = 10 := by omega
      exact UInt8.toNat_inj.1 (by simpa using h'')
     have H10 := Lib.hid h10
     clear h10
     go_wp2
     go_roundg (s.size - (j + 1))
     case measure => omega
     case rel => exact ⟨j + 1, by omega, by omega, rfl, HLN.out _ H10.out, HJ2, (((HK2.out _).setA 0 _).setA 1 _).setA 3 _⟩
  ·obtain rfl : j = s.size := by omega
   have hj2 : endOf isBl s s.size = s.size := endOf_end (Nat.le_refl _)
   have hE2 : E = s.size := by rw [← HJ.out, hj2]
   have HE2 := Lib.hid hE2
   clear hj2 hE2
   have hkz : (k : Int) ≤ (s.size : Int) := by omega
   have hd : decide ((s.size : Int) < (s.size : Int)) = false := by simp
   go_wp2_with fail
   go_quiet (fail)
   rename_i nq
   obtain ⟨W1, hW1⟩ : ∃ W, wr.drewN nq = W := ⟨_, rfl⟩
   have hR1 : Rd W1 b s s.size kw sg := by rw [← hW1]; exact hR
   have hK1 : Kp w W1 b b := by rw [← hW1]; exact ⟨hK.os, hK.tape, hK.output, hK.size, hK.block⟩
   rw [hW1]
   clear hW1 hR hK b2 b3
   have b2 := hR1.c2
   have b3 := hR1.c3
   go_wp2_with fail
   go_quiet (fail)
   go_wp2
   go_ret
   unfold Pas
   rw [HE.out, HE2.out]
   exact ⟨rfl, hR1, ⟨hK1.os, hK1.tape, hK1.output, hK1.size, hK1.block⟩⟩
set_option maxRecDepth 100000 in
set_option maxHeartbeats 8000000 in
theorem pass_nonl {w : World} {b k : Nat} {s : ByteArray} {kw sg : Value} (hR : Rd w b s k kw sg) (hk : k ≤ s.size) (hs : s.size ≤ 4294967296) :
  Calls Tryz.prog 64 #[.pointer (some ⟨b, 0, none⟩), .func (.func 143) #[] #[]] w (Pas isNoNl w b s k kw sg) := by
 have b3 := hR.c3
 obtain ⟨E, hE⟩ : ∃ E, endOf isNoNl s k = E := ⟨_, rfl⟩
 have HE := Lib.hid hE
 have hle := endOf_le (f := isNoNl) hk
 rw [hE] at hle
 clear hE
 go_enter Tryz.func64, Tryz.ntmps64
 go_wp2_with fail
 clear b3
 go_loopg [] (s.size - k) (fun g wr => ∃ j : Nat, k ≤ j ∧ j ≤ s.size ∧ g = s.size - j ∧ Rd wr b s j kw sg ∧ Hid (endOf isNoNl s j = E) ∧ Kp w wr b b)
 case atStart => exact ⟨k, Nat.le_refl _, hk, rfl, hR, HE, Kp.refl _ _ _⟩
 case round =>
  clear hR
  obtain ⟨j, hkj, hj, rfl, hR, HJ, hK⟩ := hrel
  have b2 := hR.c2
  have b3 := hR.c3
  by_cases hjs : j < s.size
  ·have hz : (j : Int) < (s.size : Int) := by omega
   have hbt := byte_at hjs
   obtain ⟨c, hc⟩ : ∃ c, byte s j = c := ⟨_, rfl⟩
   have HC := Lib.hid hc
   rw [hc] at hbt
   clear hc
   obtain ⟨q, hf⟩ : ∃ q, isNoNl c = q := ⟨_, rfl⟩
   have HF := Lib.hid hf
   have cq : ∀ W, Calls Tryz.prog 143 #[.int .u8 (c.toNat : Int)] W fun e w' => e = .returned (.bool q) ∧ w' = W := fun W => (nonl_any c W).mono fun e w' h => ⟨by rw [h.1]; rw [hf], h.2.symm⟩
   clear hf
   go_wp2_with fail
   go_quiet ((go_at_call 143; exact Calls.quiet_of_same (cq _)))
   rename_i nq
   obtain ⟨W1, hW1⟩ : ∃ W, wr.drewN nq = W := ⟨_, rfl⟩
   have hR1 : Rd W1 b s j kw sg := by rw [← hW1]; exact hR
   have hK1 : Kp w W1 b b := by rw [← hW1]; exact ⟨hK.os, hK.tape, hK.output, hK.size, hK.block⟩
   rw [hW1]
   clear hW1 hR hK b2 b3 cq
   have b2 := hR1.c2
   have b3 := hR1.c3
   cases q
   ·have hj2 : endOf isNoNl s j = j := endOf_no hjs (by rw [HC.out]; exact HF.out)
    obtain rfl : E = j := by rw [← HJ.out, hj2]
    clear hj2
    have hkz : (k : Int) ≤ (E : Int) := by omega
    have hez : (E : Int) ≤ (s.size : Int) := by omega
    go_wp2_with fail
    go_quiet (fail)
    go_wp2
    go_ret
    unfold Pas
    rw [HE.out]
    exact ⟨rfl, hR1, ⟨hK1.os, hK1.tape, hK1.output, hK1.size, hK1.block⟩⟩
   ·have hj2 : endOf isNoNl s (j + 1) = E := by rw [← HJ.out]; exact endOf_yes hjs (by rw [HC.out]; exact HF.out)
    have HJ2 := Lib.hid hj2
    clear hj2
    obtain ⟨r, hr⟩ : ∃ r, ((c.toNat : Int) == 10) = r := ⟨_, rfl⟩
    have HRr := Lib.hid hr
    go_wp2_with fail
    go_quiet (fail)
    have hR2 : ∀ n, Rd (W1.drewN n) b s j kw sg := fun n => hR1
    have hK2 : ∀ n, Kp w (W1.drewN n) b b := fun n => ⟨hK1.os, hK1.tape, hK1.output, hK1.size, hK1.block⟩
    clear b2 b3 hr hK1
    have hle2 := posAt_le s j
    have b0 := hR1.c0
    have b1 := hR1.c1
    have b3 := hR1.c3
    have f0 := hR1.frozen 0
    have f1 := hR1.frozen 1
    have f3 := hR1.frozen 3
    have hline := fun n => (hR2 n).line
    have hcol := fun n => (hR2 n).col
    have HK2 := Lib.hid hK2
    clear hK2
    obtain ⟨l, hl⟩ : ∃ l, (posAt s j).1 = l := ⟨_, rfl⟩
    obtain ⟨m, hm⟩ : ∃ m, (posAt s j).2 = m := ⟨_, rfl⟩
    rw [hl] at hline b0 hle2
    rw [hm] at hcol b1 hle2
    have HLN := Lib.hid hline
    have HCL := Lib.hid hcol
    clear hl hm hline hcol hR2 hR1
    cases r
    ·have h10 : byte s j ≠ 10 := by
      rw [HC.out]
      intro h
      have h' := HRr.out
      rw [h] at h'
      simp at h'
     have H10 := Lib.hid h10
     clear h10
     go_wp2
     go_roundg (s.size - (j + 1))
     case measure => omega
     case rel => exact ⟨j + 1, by omega, by omega, rfl, HCL.out _ H10.out, HJ2, ((HK2.out _).setA 1 _).setA 3 _⟩
    ·have h10 : byte s j = 10 := by
      rw [HC.out]
      have h' := HRr.out
      rw [beq_iff_eq] at h'
      have h'' : c.toNat = 10 := by omega
      exact UInt8.toNat_inj.1 (by simpa using h'')
     have H10 := Lib.hid h10
     clear h10
     go_wp2
     go_roundg (s.size - (j + 1))
     case measure => omega
     case rel => exact ⟨j + 1, by omega, by omega, rfl, HLN.out _ H10.out, HJ2, (((HK2.out _).setA 0 _).setA 1 _).setA 3 _⟩
  ·obtain rfl : j = s.size := by omega
   have hj2 : endOf isNoNl s s.size = s.size := endOf_end (Nat.le_refl _)
   have hE2 : E = s.size := by rw [← HJ.out, hj2]
   have HE2 := Lib.hid hE2
   clear hj2 hE2
   have hkz : (k : Int) ≤ (s.size : Int) := by omega
   have hd : decide ((s.size : Int) < (s.size : Int)) = false := by simp
   go_wp2_with fail
   go_quiet (fail)
   rename_i nq
   obtain ⟨W1, hW1⟩ : ∃ W, wr.drewN nq = W := ⟨_, rfl⟩
   have hR1 : Rd W1 b s s.size kw sg := by rw [← hW1]; exact hR
   have hK1 : Kp w W1 b b := by rw [← hW1]; exact ⟨hK.os, hK.tape, hK.output, hK.size, hK.block⟩
   rw [hW1]
   clear hW1 hR hK b2 b3
   have b2 := hR1.c2
   have b3 := hR1.c3
   go_wp2_with fail
   go_quiet (fail)
   go_wp2
   go_ret
   unfold Pas
   rw [HE.out, HE2.out]
   exact ⟨rfl, hR1, ⟨hK1.os, hK1.tape, hK1.output, hK1.size, hK1.block⟩⟩
set_option maxRecDepth 100000 in
set_option maxHeartbeats 8000000 in
theorem pass_name {w : World} {b k : Nat} {s : ByteArray} {kw sg : Value} (hR : Rd w b s k kw sg) (hk : k ≤ s.size) (hs : s.size ≤ 4294967296) :
  Calls Tryz.prog 64 #[.pointer (some ⟨b, 0, none⟩), .func (.func 144) #[] #[]] w (Pas isAny w b s k kw sg) := by
 have b3 := hR.c3
 obtain ⟨E, hE⟩ : ∃ E, endOf isAny s k = E := ⟨_, rfl⟩
 have HE := Lib.hid hE
 have hle := endOf_le (f := isAny) hk
 rw [hE] at hle
 clear hE
 go_enter Tryz.func64, Tryz.ntmps64
 go_wp2_with fail
 clear b3
 go_loopg [] (s.size - k) (fun g wr => ∃ j : Nat, k ≤ j ∧ j ≤ s.size ∧ g = s.size - j ∧ Rd wr b s j kw sg ∧ Hid (endOf isAny s j = E) ∧ Kp w wr b b)
 case atStart => exact ⟨k, Nat.le_refl _, hk, rfl, hR, HE, Kp.refl _ _ _⟩
 case round =>
  clear hR
  obtain ⟨j, hkj, hj, rfl, hR, HJ, hK⟩ := hrel
  have b2 := hR.c2
  have b3 := hR.c3
  by_cases hjs : j < s.size
  ·have hz : (j : Int) < (s.size : Int) := by omega
   have hbt := byte_at hjs
   obtain ⟨c, hc⟩ : ∃ c, byte s j = c := ⟨_, rfl⟩
   have HC := Lib.hid hc
   rw [hc] at hbt
   clear hc
   obtain ⟨q, hf⟩ : ∃ q, isAny c = q := ⟨_, rfl⟩
   have HF := Lib.hid hf
   have cq : ∀ W, Calls Tryz.prog 144 #[.int .u8 (c.toNat : Int)] W fun e w' => e = .returned (.bool q) ∧ w' = W := fun W => (any_any c W).mono fun e w' h => ⟨by rw [h.1]; rw [hf], h.2.symm⟩
   clear hf
   go_wp2_with fail
   go_quiet ((go_at_call 144; exact Calls.quiet_of_same (cq _)))
   rename_i nq
   obtain ⟨W1, hW1⟩ : ∃ W, wr.drewN nq = W := ⟨_, rfl⟩
   have hR1 : Rd W1 b s j kw sg := by rw [← hW1]; exact hR
   have hK1 : Kp w W1 b b := by rw [← hW1]; exact ⟨hK.os, hK.tape, hK.output, hK.size, hK.block⟩
   rw [hW1]
   clear hW1 hR hK b2 b3 cq
   have b2 := hR1.c2
   have b3 := hR1.c3
   cases q
   ·have hj2 : endOf isAny s j = j := endOf_no hjs (by rw [HC.out]; exact HF.out)
    obtain rfl : E = j := by rw [← HJ.out, hj2]
    clear hj2
    have hkz : (k : Int) ≤ (E : Int) := by omega
    have hez : (E : Int) ≤ (s.size : Int) := by omega
    go_wp2_with fail
    go_quiet (fail)
    go_wp2
    go_ret
    unfold Pas
    rw [HE.out]
    exact ⟨rfl, hR1, ⟨hK1.os, hK1.tape, hK1.output, hK1.size, hK1.block⟩⟩
   ·have hj2 : endOf isAny s (j + 1) = E := by rw [← HJ.out]; exact endOf_yes hjs (by rw [HC.out]; exact HF.out)
    have HJ2 := Lib.hid hj2
    clear hj2
    obtain ⟨r, hr⟩ : ∃ r, ((c.toNat : Int) == 10) = r := ⟨_, rfl⟩
    have HRr := Lib.hid hr
    go_wp2_with fail
    go_quiet (fail)
    have hR2 : ∀ n, Rd (W1.drewN n) b s j kw sg := fun n => hR1
    have hK2 : ∀ n, Kp w (W1.drewN n) b b := fun n => ⟨hK1.os, hK1.tape, hK1.output, hK1.size, hK1.block⟩
    clear b2 b3 hr hK1
    have hle2 := posAt_le s j
    have b0 := hR1.c0
    have b1 := hR1.c1
    have b3 := hR1.c3
    have f0 := hR1.frozen 0
    have f1 := hR1.frozen 1
    have f3 := hR1.frozen 3
    have hline := fun n => (hR2 n).line
    have hcol := fun n => (hR2 n).col
    have HK2 := Lib.hid hK2
    clear hK2
    obtain ⟨l, hl⟩ : ∃ l, (posAt s j).1 = l := ⟨_, rfl⟩
    obtain ⟨m, hm⟩ : ∃ m, (posAt s j).2 = m := ⟨_, rfl⟩
    rw [hl] at hline b0 hle2
    rw [hm] at hcol b1 hle2
    have HLN := Lib.hid hline
    have HCL := Lib.hid hcol
    clear hl hm hline hcol hR2 hR1
    cases r
    ·have h10 : byte s j ≠ 10 := by
      rw [HC.out]
      intro h
      have h' := HRr.out
      rw [h] at h'
      simp at h'
     have H10 := Lib.hid h10
     clear h10
     go_wp2
     go_roundg (s.size - (j + 1))
     case measure => omega
     case rel => exact ⟨j + 1, by omega, by omega, rfl, HCL.out _ H10.out, HJ2, ((HK2.out _).setA 1 _).setA 3 _⟩
    ·have h10 : byte s j = 10 := by
      rw [HC.out]
      have h' := HRr.out
      rw [beq_iff_eq] at h'
      have h'' : c.toNat = 10 := by omega
      exact UInt8.toNat_inj.1 (by simpa using h'')
     have H10 := Lib.hid h10
     clear h10
     go_wp2
     go_roundg (s.size - (j + 1))
     case measure => omega
     case rel => exact ⟨j + 1, by omega, by omega, rfl, HLN.out _ H10.out, HJ2, (((HK2.out _).setA 0 _).setA 1 _).setA 3 _⟩
  ·obtain rfl : j = s.size := by omega
   have hj2 : endOf isAny s s.size = s.size := endOf_end (Nat.le_refl _)
   have hE2 : E = s.size := by rw [← HJ.out, hj2]
   have HE2 := Lib.hid hE2
   clear hj2 hE2
   have hkz : (k : Int) ≤ (s.size : Int) := by omega
   have hd : decide ((s.size : Int) < (s.size : Int)) = false := by simp
   go_wp2_with fail
   go_quiet (fail)
   rename_i nq
   obtain ⟨W1, hW1⟩ : ∃ W, wr.drewN nq = W := ⟨_, rfl⟩
   have hR1 : Rd W1 b s s.size kw sg := by rw [← hW1]; exact hR
   have hK1 : Kp w W1 b b := by rw [← hW1]; exact ⟨hK.os, hK.tape, hK.output, hK.size, hK.block⟩
   rw [hW1]
   clear hW1 hR hK b2 b3
   have b2 := hR1.c2
   have b3 := hR1.c3
   go_wp2_with fail
   go_quiet (fail)
   go_wp2
   go_ret
   unfold Pas
   rw [HE.out, HE2.out]
   exact ⟨rfl, hR1, ⟨hK1.os, hK1.tape, hK1.output, hK1.size, hK1.block⟩⟩
set_option maxRecDepth 100000 in
set_option maxHeartbeats 8000000 in
theorem pass_dig {w : World} {b k : Nat} {s : ByteArray} {kw sg : Value} (hR : Rd w b s k kw sg) (hk : k ≤ s.size) (hs : s.size ≤ 4294967296) :
  Calls Tryz.prog 64 #[.pointer (some ⟨b, 0, none⟩), .func (.func 131) #[] #[]] w (Pas isDig w b s k kw sg) := by
 have b3 := hR.c3
 obtain ⟨E, hE⟩ : ∃ E, endOf isDig s k = E := ⟨_, rfl⟩
 have HE := Lib.hid hE
 have hle := endOf_le (f := isDig) hk
 rw [hE] at hle
 clear hE
 go_enter Tryz.func64, Tryz.ntmps64
 go_wp2_with fail
 clear b3
 go_loopg [] (s.size - k) (fun g wr => ∃ j : Nat, k ≤ j ∧ j ≤ s.size ∧ g = s.size - j ∧ Rd wr b s j kw sg ∧ Hid (endOf isDig s j = E) ∧ Kp w wr b b)
 case atStart => exact ⟨k, Nat.le_refl _, hk, rfl, hR, HE, Kp.refl _ _ _⟩
 case round =>
  clear hR
  obtain ⟨j, hkj, hj, rfl, hR, HJ, hK⟩ := hrel
  have b2 := hR.c2
  have b3 := hR.c3
  by_cases hjs : j < s.size
  ·have hz : (j : Int) < (s.size : Int) := by omega
   have hbt := byte_at hjs
   obtain ⟨c, hc⟩ : ∃ c, byte s j = c := ⟨_, rfl⟩
   have HC := Lib.hid hc
   rw [hc] at hbt
   clear hc
   obtain ⟨q, hf⟩ : ∃ q, isDig c = q := ⟨_, rfl⟩
   have HF := Lib.hid hf
   have cq : ∀ W, Calls Tryz.prog 131 #[.int .u8 (c.toNat : Int)] W fun e w' => e = .returned (.bool q) ∧ w' = W := fun W => (digit_any c W).mono fun e w' h => ⟨by rw [h.1]; rw [hf], h.2.symm⟩
   clear hf
   go_wp2_with fail
   go_quiet ((go_at_call 131; exact Calls.quiet_of_same (cq _)))
   rename_i nq
   obtain ⟨W1, hW1⟩ : ∃ W, wr.drewN nq = W := ⟨_, rfl⟩
   have hR1 : Rd W1 b s j kw sg := by rw [← hW1]; exact hR
   have hK1 : Kp w W1 b b := by rw [← hW1]; exact ⟨hK.os, hK.tape, hK.output, hK.size, hK.block⟩
   rw [hW1]
   clear hW1 hR hK b2 b3 cq
   have b2 := hR1.c2
   have b3 := hR1.c3
   cases q
   ·have hj2 : endOf isDig s j = j := endOf_no hjs (by rw [HC.out]; exact HF.out)
    obtain rfl : E = j := by rw [← HJ.out, hj2]
    clear hj2
    have hkz : (k : Int) ≤ (E : Int) := by omega
    have hez : (E : Int) ≤ (s.size : Int) := by omega
    go_wp2_with fail
    go_quiet (fail)
    go_wp2
    go_ret
    unfold Pas
    rw [HE.out]
    exact ⟨rfl, hR1, ⟨hK1.os, hK1.tape, hK1.output, hK1.size, hK1.block⟩⟩
   ·have hj2 : endOf isDig s (j + 1) = E := by rw [← HJ.out]; exact endOf_yes hjs (by rw [HC.out]; exact HF.out)
    have HJ2 := Lib.hid hj2
    clear hj2
    obtain ⟨r, hr⟩ : ∃ r, ((c.toNat : Int) == 10) = r := ⟨_, rfl⟩
    have HRr := Lib.hid hr
    go_wp2_with fail
    go_quiet (fail)
    have hR2 : ∀ n, Rd (W1.drewN n) b s j kw sg := fun n => hR1
    have hK2 : ∀ n, Kp w (W1.drewN n) b b := fun n => ⟨hK1.os, hK1.tape, hK1.output, hK1.size, hK1.block⟩
    clear b2 b3 hr hK1
    have hle2 := posAt_le s j
    have b0 := hR1.c0
    have b1 := hR1.c1
    have b3 := hR1.c3
    have f0 := hR1.frozen 0
    have f1 := hR1.frozen 1
    have f3 := hR1.frozen 3
    have hline := fun n => (hR2 n).line
    have hcol := fun n => (hR2 n).col
    have HK2 := Lib.hid hK2
    clear hK2
    obtain ⟨l, hl⟩ : ∃ l, (posAt s j).1 = l := ⟨_, rfl⟩
    obtain ⟨m, hm⟩ : ∃ m, (posAt s j).2 = m := ⟨_, rfl⟩
    rw [hl] at hline b0 hle2
    rw [hm] at hcol b1 hle2
    have HLN := Lib.hid hline
    have HCL := Lib.hid hcol
    clear hl hm hline hcol hR2 hR1
    cases r
    ·have h10 : byte s j ≠ 10 := by
      rw [HC.out]
      intro h
      have h' := HRr.out
      rw [h] at h'
      simp at h'
     have H10 := Lib.hid h10
     clear h10
     go_wp2
     go_roundg (s.size - (j + 1))
     case measure => omega
     case rel => exact ⟨j + 1, by omega, by omega, rfl, HCL.out _ H10.out, HJ2, ((HK2.out _).setA 1 _).setA 3 _⟩
    ·have h10 : byte s j = 10 := by
      rw [HC.out]
      have h' := HRr.out
      rw [beq_iff_eq] at h'
      have h'' : c.toNat = 10 := by omega
      exact UInt8.toNat_inj.1 (by simpa using h'')
     have H10 := Lib.hid h10
     clear h10
     go_wp2
     go_roundg (s.size - (j + 1))
     case measure => omega
     case rel => exact ⟨j + 1, by omega, by omega, rfl, HLN.out _ H10.out, HJ2, (((HK2.out _).setA 0 _).setA 1 _).setA 3 _⟩
  ·obtain rfl : j = s.size := by omega
   have hj2 : endOf isDig s s.size = s.size := endOf_end (Nat.le_refl _)
   have hE2 : E = s.size := by rw [← HJ.out, hj2]
   have HE2 := Lib.hid hE2
   clear hj2 hE2
   have hkz : (k : Int) ≤ (s.size : Int) := by omega
   have hd : decide ((s.size : Int) < (s.size : Int)) = false := by simp
   go_wp2_with fail
   go_quiet (fail)
   rename_i nq
   obtain ⟨W1, hW1⟩ : ∃ W, wr.drewN nq = W := ⟨_, rfl⟩
   have hR1 : Rd W1 b s s.size kw sg := by rw [← hW1]; exact hR
   have hK1 : Kp w W1 b b := by rw [← hW1]; exact ⟨hK.os, hK.tape, hK.output, hK.size, hK.block⟩
   rw [hW1]
   clear hW1 hR hK b2 b3
   have b2 := hR1.c2
   have b3 := hR1.c3
   go_wp2_with fail
   go_quiet (fail)
   go_wp2
   go_ret
   unfold Pas
   rw [HE.out, HE2.out]
   exact ⟨rfl, hR1, ⟨hK1.os, hK1.tape, hK1.output, hK1.size, hK1.block⟩⟩
set_option maxRecDepth 100000 in
set_option maxHeartbeats 8000000 in
theorem pass_all {w : World} {b k : Nat} {s : ByteArray} {kw sg : Value} (hR : Rd w b s k kw sg) (hk : k ≤ s.size) (hs : s.size ≤ 4294967296) :
  Calls Tryz.prog 64 #[.pointer (some ⟨b, 0, none⟩), .func (.func 65) #[] #[]] w (Pas isAll w b s k kw sg) := by
 have b3 := hR.c3
 obtain ⟨E, hE⟩ : ∃ E, endOf isAll s k = E := ⟨_, rfl⟩
 have HE := Lib.hid hE
 have hle := endOf_le (f := isAll) hk
 rw [hE] at hle
 clear hE
 go_enter Tryz.func64, Tryz.ntmps64
 go_wp2_with fail
 clear b3
 go_loopg [] (s.size - k) (fun g wr => ∃ j : Nat, k ≤ j ∧ j ≤ s.size ∧ g = s.size - j ∧ Rd wr b s j kw sg ∧ Hid (endOf isAll s j = E) ∧ Kp w wr b b)
 case atStart => exact ⟨k, Nat.le_refl _, hk, rfl, hR, HE, Kp.refl _ _ _⟩
 case round =>
  clear hR
  obtain ⟨j, hkj, hj, rfl, hR, HJ, hK⟩ := hrel
  have b2 := hR.c2
  have b3 := hR.c3
  by_cases hjs : j < s.size
  ·have hz : (j : Int) < (s.size : Int) := by omega
   have hbt := byte_at hjs
   obtain ⟨c, hc⟩ : ∃ c, byte s j = c := ⟨_, rfl⟩
   have HC := Lib.hid hc
   rw [hc] at hbt
   clear hc
   obtain ⟨q, hf⟩ : ∃ q, isAll c = q := ⟨_, rfl⟩
   have HF := Lib.hid hf
   have cq : ∀ W, Calls Tryz.prog 65 #[.int .u8 (c.toNat : Int)] W fun e w' => e = .returned (.bool q) ∧ w' = W := fun W => (all_any c W).mono fun e w' h => ⟨by rw [h.1]; rw [← hf]; rfl, h.2.symm⟩
   clear hf
   go_wp2_with fail
   go_quiet ((go_at_call 65; exact Calls.quiet_of_same (cq _)))
   rename_i nq
   obtain ⟨W1, hW1⟩ : ∃ W, wr.drewN nq = W := ⟨_, rfl⟩
   have hR1 : Rd W1 b s j kw sg := by rw [← hW1]; exact hR
   have hK1 : Kp w W1 b b := by rw [← hW1]; exact ⟨hK.os, hK.tape, hK.output, hK.size, hK.block⟩
   rw [hW1]
   clear hW1 hR hK b2 b3 cq
   have b2 := hR1.c2
   have b3 := hR1.c3
   cases q
   ·have hj2 : endOf isAll s j = j := endOf_no hjs (by rw [HC.out]; exact HF.out)
    obtain rfl : E = j := by rw [← HJ.out, hj2]
    clear hj2
    have hkz : (k : Int) ≤ (E : Int) := by omega
    have hez : (E : Int) ≤ (s.size : Int) := by omega
    go_wp2_with fail
    go_quiet (fail)
    go_wp2
    go_ret
    unfold Pas
    rw [HE.out]
    exact ⟨rfl, hR1, ⟨hK1.os, hK1.tape, hK1.output, hK1.size, hK1.block⟩⟩
   ·have hj2 : endOf isAll s (j + 1) = E := by rw [← HJ.out]; exact endOf_yes hjs (by rw [HC.out]; exact HF.out)
    have HJ2 := Lib.hid hj2
    clear hj2
    obtain ⟨r, hr⟩ : ∃ r, ((c.toNat : Int) == 10) = r := ⟨_, rfl⟩
    have HRr := Lib.hid hr
    go_wp2_with fail
    go_quiet (fail)
    have hR2 : ∀ n, Rd (W1.drewN n) b s j kw sg := fun n => hR1
    have hK2 : ∀ n, Kp w (W1.drewN n) b b := fun n => ⟨hK1.os, hK1.tape, hK1.output, hK1.size, hK1.block⟩
    clear b2 b3 hr hK1
    have hle2 := posAt_le s j
    have b0 := hR1.c0
    have b1 := hR1.c1
    have b3 := hR1.c3
    have f0 := hR1.frozen 0
    have f1 := hR1.frozen 1
    have f3 := hR1.frozen 3
    have hline := fun n => (hR2 n).line
    have hcol := fun n => (hR2 n).col
    have HK2 := Lib.hid hK2
    clear hK2
    obtain ⟨l, hl⟩ : ∃ l, (posAt s j).1 = l := ⟨_, rfl⟩
    obtain ⟨m, hm⟩ : ∃ m, (posAt s j).2 = m := ⟨_, rfl⟩
    rw [hl] at hline b0 hle2
    rw [hm] at hcol b1 hle2
    have HLN := Lib.hid hline
    have HCL := Lib.hid hcol
    clear hl hm hline hcol hR2 hR1
    cases r
    ·have h10 : byte s j ≠ 10 := by
      rw [HC.out]
      intro h
      have h' := HRr.out
      rw [h] at h'
      simp at h'
     have H10 := Lib.hid h10
     clear h10
     go_wp2
     go_roundg (s.size - (j + 1))
     case measure => omega
     case rel => exact ⟨j + 1, by omega, by omega, rfl, HCL.out _ H10.out, HJ2, ((HK2.out _).setA 1 _).setA 3 _⟩
    ·have h10 : byte s j = 10 := by
      rw [HC.out]
      have h' := HRr.out
      rw [beq_iff_eq] at h'
      have h'' : c.toNat = 10 := by omega
      exact UInt8.toNat_inj.1 (by simpa using h'')
     have H10 := Lib.hid h10
     clear h10
     go_wp2
     go_roundg (s.size - (j + 1))
     case measure => omega
     case rel => exact ⟨j + 1, by omega, by omega, rfl, HLN.out _ H10.out, HJ2, (((HK2.out _).setA 0 _).setA 1 _).setA 3 _⟩
  ·obtain rfl : j = s.size := by omega
   have hj2 : endOf isAll s s.size = s.size := endOf_end (Nat.le_refl _)
   have hE2 : E = s.size := by rw [← HJ.out, hj2]
   have HE2 := Lib.hid hE2
   clear hj2 hE2
   have hkz : (k : Int) ≤ (s.size : Int) := by omega
   have hd : decide ((s.size : Int) < (s.size : Int)) = false := by simp
   go_wp2_with fail
   go_quiet (fail)
   rename_i nq
   obtain ⟨W1, hW1⟩ : ∃ W, wr.drewN nq = W := ⟨_, rfl⟩
   have hR1 : Rd W1 b s s.size kw sg := by rw [← hW1]; exact hR
   have hK1 : Kp w W1 b b := by rw [← hW1]; exact ⟨hK.os, hK.tape, hK.output, hK.size, hK.block⟩
   rw [hW1]
   clear hW1 hR hK b2 b3
   have b2 := hR1.c2
   have b3 := hR1.c3
   go_wp2_with fail
   go_quiet (fail)
   go_wp2
   go_ret
   unfold Pas
   rw [HE.out, HE2.out]
   exact ⟨rfl, hR1, ⟨hK1.os, hK1.tape, hK1.output, hK1.size, hK1.block⟩⟩
end Go.Proofs.YtjmlmelcppbefaaGreatDoor
