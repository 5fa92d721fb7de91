/- What the syntax texts share, part 8. No condition. -/
import Derived.StillTailTactics
import Derived.IntWalk
import Derived.Test.YtjmlmelcppbefaaGreatDoorT05
namespace Go.Proofs.YtjmlmelcppbefaaGreatDoor
open Go.RowKit
def Num (w : World) (b : Nat) (x : Int) : Prop := w.heap[b]? = some (.cells #[.int .i64 x] 3 (0, 0))
theorem Num.lt {w : World} {b : Nat} {x : Int} (h : Num w b x) : b < w.heap.size := (Array.getElem?_eq_some_iff.1 h).1
theorem Num.c0 {w : World} {b : Nat} {x : Int} (h : Num w b x) : w.cell? ⟨b, 0, none⟩ = some (.int .i64 x) := by unfold Num at h; simp [World.cell?, h]
theorem Num.frozen {w : World} {b : Nat} {x : Int} (h : Num w b x) (k : Nat) : w.frozen? ⟨b, k, none⟩ = false := by unfold Num at h; simp [World.frozen?, h]
theorem Num.set {w : World} {b : Nat} {x : Int} (h : Num w b x) (y : Int) : Num (w.setCell ⟨b, 0, none⟩ (.int .i64 y)) b y := by
 have h2 := heap_set (j := 0) h (.int .i64 y)
 unfold Num
 rw [h2]
 simp
theorem Num.of {w w' : World} {b : Nat} {x : Int} (h : Num w b x) (he : w'.heap[b]? = w.heap[b]?) : Num w' b x := he.trans h
theorem Num.other {w : World} {b b' : Nat} {x : Int} (h : Num w b x) (hne : b ≠ b') (k : Nat) (u : Value) : Num (w.setCell ⟨b', k, none⟩ u) b x := h.of (Below.heap_setCell w ⟨b', k, none⟩ u b hne)
theorem Kp.setB {w w' : World} {a b : Nat} (h : Kp w w' a b) (k : Nat) (u : Value) : Kp w (w'.setCell ⟨b, k, none⟩ u) a b :=
 ⟨h.os, h.tape, h.output, by simpa [World.setCell] using h.size, fun j hj h1 h2 => (Below.heap_setCell w' ⟨b, k, none⟩ u j h2).trans (h.block j hj h1 h2)⟩
set_option maxHeartbeats 1000000 in
theorem left_any {w : World} {g : Nat} {n : Int} (h : Num w g n) (h0 : -10 < n) (h1 : n < 10) (c : UInt8) :
  Calls Tryz.prog 164 #[.int .u8 (c.toNat : Int), .pointer (some ⟨g, 0, none⟩)] w fun e w' => e = .returned (.bool (decide (1 ≤ n))) ∧ w' = w.setCell ⟨g, 0, none⟩ (.int .i64 (n - 1)) := by
 have c0 := h.c0
 have f0 := h.frozen 0
 by_cases hn : 1 ≤ n
 ·rw [decide_eq_true hn]
  have i1 : (0 : Int) ≤ n - 1 := by omega
  go_enter Tryz.func164, Tryz.ntmps164
  go_wp2
  go_ret
  exact ⟨rfl, rfl⟩
 ·rw [decide_eq_false hn]
  have i1 : ¬ (0 : Int) ≤ n - 1 := by omega
  go_enter Tryz.func164, Tryz.ntmps164
  go_wp2
  go_ret
  exact ⟨rfl, rfl⟩
set_option maxRecDepth 100000 in
set_option maxHeartbeats 8000000 in
theorem pass_left {w : World} {b g k n : Nat} {s : ByteArray} {kw sg : Value} (hR : Rd w b s k kw sg) (hN : Num w g n) (hne : b ≠ g) (h1 : 1 ≤ n) (h2 : n ≤ 2) (hk : k + n ≤ s.size) (hs : s.size ≤ 4294967296) :
  Calls Tryz.prog 64 #[.pointer (some ⟨b, 0, none⟩), .func (.func 164) #[] #[.pointer (some ⟨g, 0, none⟩)]] w fun e w' => e = .returned (.string (s.extract k (k + n))) ∧ Rd w' b s (k + n) kw sg ∧ Kp w w' b g := by
 have b3 := hR.c3
 go_enter Tryz.func64, Tryz.ntmps64
 go_wp2_with fail
 clear b3
 go_loopg [] n (fun x wr => ∃ i : Nat, i ≤ n ∧ x = n - i ∧ Rd wr b s (k + i) kw sg ∧ Num wr g ((n : Int) - i) ∧ Kp w wr b g)
 case atStart => exact ⟨0, Nat.zero_le _, rfl, hR, by simpa using hN, Kp.refl _ _ _⟩
 case round =>
  clear hR hN
  obtain ⟨i, hi, rfl, hR, hN, hK⟩ := hrel
  have b2 := hR.c2
  have b3 := hR.c3
  obtain ⟨j, hj⟩ : ∃ j, k + i = j := ⟨_, rfl⟩
  rw [hj] at b3 hR
  have HJ := Lib.hid hj
  by_cases hjs : j < s.size
  ·have hz : (j : Int) < (s.size : Int) := by omega
   have hbt := byte_at hjs
   obtain ⟨c, hc⟩ : ∃ c, byte s j = c := ⟨_, rfl⟩
   have HC := Lib.hid hc
   rw [hc] at hbt
   have cl := left_any hN (by omega) (by omega) c
   clear hc hj
   go_wp2_with fail
   go_still_tail 21, (by kernel_rfl)
   change wpList _ _ _ _ _ wr.drew
   have hR1 : Rd wr.drew b s j kw sg := hR
   have hN1 : Num wr.drew g ((n : Int) - i) := hN
   have hK1 : Kp w wr.drew b g := hK.drew
   clear hR hN hK b2 b3 cl
   generalize wr.drew = W1 at *
   go_wp2_with fail
   refine (left_any hN1 (by omega) (by omega) c).mono ?_
   rintro e w2 ⟨rfl, rfl⟩
   have hR2 : Rd (W1.setCell ⟨g, 0, none⟩ (.int .i64 ((n : Int) - i - 1))) b s j kw sg := hR1.of (Below.heap_setCell W1 ⟨g, 0, none⟩ _ b hne)
   have hN2 := hN1.set ((n : Int) - i - 1)
   have hK2 : Kp w (W1.setCell ⟨g, 0, none⟩ (.int .i64 ((n : Int) - i - 1))) b g := hK1.setB 0 _
   clear hR1 hN1 hK1
   generalize W1.setCell ⟨g, 0, none⟩ (.int .i64 ((n : Int) - i - 1)) = W2 at *
   have b2 := hR2.c2
   have b3 := hR2.c3
   by_cases hin : i < n
   ·have hd : decide (1 ≤ (n : Int) - i) = true := decide_eq_true (by omega)
    rw [hd]
    clear hd
    obtain ⟨r, hr⟩ : ∃ r, ((c.toNat : Int) == 10) = r := ⟨_, rfl⟩
    have HRr := Lib.hid hr
    go_wp2_with fail
    go_quiet (fail)
    have hR3 : ∀ n, Rd (W2.drewN n) b s j kw sg := fun _ => hR2
    have hN3 : ∀ m, Num (W2.drewN m) g ((n : Int) - i - 1) := fun _ => hN2
    have hK3 : ∀ n, Kp w (W2.drewN n) b g := fun n => ⟨hK2.os, hK2.tape, hK2.output, hK2.size, hK2.block⟩
    clear b2 b3 hr hK2
    have hle2 := posAt_le s j
    have b0 := hR2.c0
    have b1 := hR2.c1
    have b3 := hR2.c3
    have f0 := hR2.frozen 0
    have f1 := hR2.frozen 1
    have f3 := hR2.frozen 3
    have hline := fun n => (hR3 n).line
    have hcol := fun n => (hR3 n).col
    have HK2 := Lib.hid hK3
    have HN2 := Lib.hid hN3
    clear hK3 hN3 hN2
    obtain ⟨l, hl⟩ : ∃ l, (posAt s j).1 = l := ⟨_, rfl⟩
    obtain ⟨m, hm⟩ : ∃ m, (posAt s j).2 = m := ⟨_, rfl⟩
    rw [hl] at hline b0 hle2
    rw [hm] at hcol b1 hle2
    have HLN := Lib.hid hline
    have HCL := Lib.hid hcol
    clear hl hm hline hcol hR2 hR3
    have hj1 : k + (i + 1) = j + 1 := by have := HJ.out; omega
    have HJ1 := Lib.hid hj1
    clear hj1
    have hne' : g ≠ b := fun e => hne e.symm
    cases r
    ·have h10 : byte s j ≠ 10 := by
      rw [HC.out]
      intro h
      have h' := HRr.out
      rw [h] at h'
      simp at h'
     have H10 := Lib.hid h10
     clear h10
     go_wp2
     go_roundg (n - (i + 1))
     case measure => omega
     case rel =>
      refine ⟨i + 1, by omega, rfl, ?_, ?_, ((HK2.out _).setA 1 _).setA 3 _⟩
      ·rw [HJ1.out]
       exact HCL.out _ H10.out
      ·rw [show (n : Int) - ((i + 1 : Nat) : Int) = (n : Int) - i - 1 by omega]
       exact ((HN2.out _).other hne' 1 _).other hne' 3 _
    ·have h10 : byte s j = 10 := by
      rw [HC.out]
      have h' := HRr.out
      rw [beq_iff_eq] at h'
      have h'' : c.toNat = 10 := by omega
      exact UInt8.toNat_inj.1 (by simpa using h'')
     have H10 := Lib.hid h10
     clear h10
     go_wp2
     go_roundg (n - (i + 1))
     case measure => omega
     case rel =>
      refine ⟨i + 1, by omega, rfl, ?_, ?_, (((HK2.out _).setA 0 _).setA 1 _).setA 3 _⟩
      ·rw [HJ1.out]
       exact HLN.out _ H10.out
      ·rw [show (n : Int) - ((i + 1 : Nat) : Int) = (n : Int) - i - 1 by omega]
       exact (((HN2.out _).other hne' 0 _).other hne' 1 _).other hne' 3 _
   ·have hd : decide (1 ≤ (n : Int) - i) = false := decide_eq_false (by omega)
    rw [hd]
    clear hd
    have hjE : k + n = j := by have := HJ.out; omega
    have HE := Lib.hid hjE
    have hkz : (k : Int) ≤ (j : Int) := by omega
    have hez : (j : Int) ≤ (s.size : Int) := by omega
    clear hjE
    go_wp2_with fail
    go_quiet (fail)
    go_wp2
    go_ret
    rw [HE.out]
    exact ⟨rfl, hR2, ⟨hK2.os, hK2.tape, hK2.output, hK2.size, hK2.block⟩⟩
  ·have hjE : k + n = s.size := by omega
   have hjj : j = s.size := by omega
   subst hjj
   have HE := Lib.hid hjE
   have hkz : (k : Int) ≤ (s.size : Int) := by omega
   clear hj hjE
   have hd : decide ((s.size : Int) < (s.size : Int)) = false := by simp
   go_wp2_with fail
   go_quiet (fail)
   rename_i nq
   obtain ⟨W1, hW1⟩ : ∃ W, wr.drewN nq = W := ⟨_, rfl⟩
   have hR1 : Rd W1 b s s.size kw sg := by rw [← hW1]; exact hR
   have hK1 : Kp w W1 b g := by rw [← hW1]; exact ⟨hK.os, hK.tape, hK.output, hK.size, hK.block⟩
   rw [hW1]
   clear hW1 hR hK b2 b3
   have b2 := hR1.c2
   have b3 := hR1.c3
   go_wp2_with fail
   go_quiet (fail)
   go_wp2
   go_ret
   rw [HE.out]
   exact ⟨rfl, hR1, ⟨hK1.os, hK1.tape, hK1.output, hK1.size, hK1.block⟩⟩
end Go.Proofs.YtjmlmelcppbefaaGreatDoor
namespace Go.Proofs.YtjmlmelcppbefaaGreatDoor
open Go.RowKit Go.Maps
theorem look_at {W : World} {g : Nat} {ss : List ByteArray} (h : W.ownsMap Tryz.prog 9 (plainElem Tryz.prog 3) g 20 (Lst ss 20)) (t : ByteArray) (ht : t.size ≤ maxLen) :
  (Instr.lookup 124 (.map (some g)) (.string t) false).run Tryz.prog W = .ok (.int .i64 (lastOf ss t.data.toList 20)) W := by
 obtain ⟨c, hrun, hat, _⟩ := h.lookup_int law Tryz.underlying124 Tryz.underlying3 (zero3 _) (Go.WideMaps.keyOf_string_mk Tryz.underlying9 (s := t) ht)
 rw [lst_at] at hat
 have hc : lastOf ss t.data.toList 20 = c := by simpa using hat
 rw [hc]
 exact hrun
def sgnF (s : ByteArray) (k : Nat) : Nat → Nat
 | 0 => 0
 | m + 1 => if isSg (s.extract k (k + (m + 1))).data.toList then m + 1 else sgnF s k m
theorem sgnF_le (s : ByteArray) (k m : Nat) : sgnF s k m ≤ m := by
 induction m with
 | zero => exact Nat.le_refl _
 | succ m ih =>
  unfold sgnF
  split
  ·exact Nat.le_refl _
  ·omega
theorem extract_le (s : ByteArray) (k j : Nat) (h : s.size ≤ maxLen) : (s.extract k j).size ≤ maxLen := by
 rw [ByteArray.size_extract]
 omega
theorem extract_none (s : ByteArray) (k : Nat) : s.extract k (k + 0) = ⟨#[]⟩ := by
 apply ByteArray.ext
 simp
set_option maxRecDepth 100000 in
set_option maxHeartbeats 8000000 in
theorem sign_any {w : World} {b k gs : Nat} {s : ByteArray} {kw : Value} (hR : Rd w b s k kw (.map (some gs))) (hO : w.ownsMap Tryz.prog 9 (plainElem Tryz.prog 3) gs 20 (Lst sgL 20)) (_hne : gs ≠ b) (hk : k < s.size) (hs : s.size ≤ 4294967296) :
  Calls Tryz.prog 146 #[.pointer (some ⟨b, 0, none⟩)] w fun e w' => ∃ n, n = sgnF s k (min 2 (s.size - k)) ∧ e = .returned (.string (s.extract k (k + n))) ∧ Rd w' b s (k + n) kw (.map (some gs)) ∧ Kp w w' b b := by
 have b2 := hR.c2
 have b3 := hR.c3
 obtain ⟨M, hM⟩ : ∃ M, min 2 (s.size - k) = M := ⟨_, rfl⟩
 have hMz : (if (s.size : Int) - (k : Int) < 2 then (s.size : Int) - (k : Int) else 2) = (M : Int) := by split <;> omega
 have HMz := Lib.hid hMz
 clear hMz
 have hM1 : 1 ≤ M ∧ M ≤ 2 ∧ k + M ≤ s.size := by omega
 rw [hM]
 obtain ⟨E, hE⟩ : ∃ E, sgnF s k M = E := ⟨_, rfl⟩
 rw [hE]
 have HE := Lib.hid hE
 clear hE hM
 go_enter Tryz.func146, Tryz.ntmps146
 go_wp2_with fail
 go_quiet (fail)
 rename_i nq
 rw [HMz.out]
 obtain ⟨W0, hW0⟩ : ∃ W, w.drewN nq = W := ⟨_, rfl⟩
 have hR0 : Rd W0 b s k kw (.map (some gs)) := by rw [← hW0]; exact hR
 have hK0 : Kp w W0 b b := by rw [← hW0]; exact ⟨rfl, rfl, rfl, Nat.le_refl _, fun _ _ _ _ => rfl⟩
 have hO0 : W0.ownsMap Tryz.prog 9 (plainElem Tryz.prog 3) gs 20 (Lst sgL 20) := by rw [← hW0]; exact hO
 rw [hW0]
 clear hW0 hR hO b2 b3 HMz
 go_wp2_with fail
 go_loopg [3] M (fun x sl wr => ∃ m : Nat, m ≤ 2 ∧ k + m ≤ s.size ∧ x = m ∧ sl = .int .i64 m ∧ Rd wr b s k kw (.map (some gs)) ∧ wr.ownsMap Tryz.prog 9 (plainElem Tryz.prog 3) gs 20 (Lst sgL 20) ∧ Kp w wr b b ∧ Hid (sgnF s k m = E))
 case atStart => exact ⟨M, by omega, by omega, rfl, rfl, hR0, hO0, hK0, HE⟩
 case round =>
  clear hR0 hO0 hK0
  obtain ⟨m, hm2, hkm, hgm, rfl, hR, hO, hK, HJ⟩ := hrel
  have HGM := Lib.hid hgm
  clear hgm
  have b2 := hR.c2
  have b3 := hR.c3
  have b5 := hR.c5
  by_cases hm0 : 0 < m
  ·have i1 : (0 : Int) < (m : Int) := by omega
   obtain ⟨J, hJ⟩ : ∃ J, k + m = J := ⟨_, rfl⟩
   have hun : sgnF s k m = if isSg (s.extract k (k + m)).data.toList then m else sgnF s k (m - 1) := by
    obtain ⟨m', rfl⟩ : ∃ m', m = m' + 1 := ⟨m - 1, by omega⟩
    rfl
   rw [hJ] at hun
   obtain ⟨t, ht⟩ : ∃ t, s.extract k J = t := ⟨_, rfl⟩
   rw [ht] at hun
   have hlook : ∀ n, (Instr.lookup 124 (.map (some gs)) (.string t) false).run Tryz.prog (wr.drewN n) = .ok (.int .i64 (lastOf sgL t.data.toList 20)) (wr.drewN n) := fun n => by
    refine look_at (W := wr.drewN n) hO t ?_
    rw [← ht]
    exact extract_le _ _ _ (Nat.le_trans hs (by decide))
   have hJ2 : (if isSg t.data.toList then m else sgnF s k (m - 1)) = E := by rw [← HJ.out, hun]
   clear hun
   have hpos := sg_pos t.data.toList
   obtain ⟨c, hc⟩ : ∃ c, lastOf sgL t.data.toList 20 = c := ⟨_, rfl⟩
   rw [hc] at hlook hpos
   obtain ⟨q, hq⟩ : ∃ q, isSg t.data.toList = q := ⟨_, rfl⟩
   rw [hq] at hpos hJ2
   have HJ2 := Lib.hid hJ2
   have HT := Lib.hid ht
   clear hc hq hJ2
   have w1 : IntKind.i64.wrap ((k : Int) + (m : Int)) = (J : Int) := by
    rw [IntWalk.i64_in _ (by omega)]
    omega
   have hhi : (J : Int) ≤ (s.size : Int) := by omega
   have hlo : (k : Int) ≤ (J : Int) := by omega
   have HJe := Lib.hid hJ
   clear hJ
   go_wp2_with fail
   go_quiet (fail)
   rename_i nq
   obtain ⟨W1, hW1⟩ : ∃ W, wr.drewN nq = W := ⟨_, rfl⟩
   have hR1 : Rd W1 b s k kw (.map (some gs)) := by rw [← hW1]; exact hR
   have hK1 : Kp w W1 b b := by rw [← hW1]; exact ⟨hK.os, hK.tape, hK.output, hK.size, hK.block⟩
   have hO1 : W1.ownsMap Tryz.prog 9 (plainElem Tryz.prog 3) gs 20 (Lst sgL 20) := by rw [← hW1]; exact hO
   rw [hW1]
   clear hW1 hR hK hO b2 b3 b5 hlook w1 hhi hlo
   cases q
   ·have HJ3 := Lib.hid (show sgnF s k (m - 1) = E by have h := HJ2.out; simpa using h)
    go_wp2
    go_roundg (m - 1)
    case measure => have := HGM.out; omega
    case rel =>
     have e : ((m - 1 : Nat) : Int) = (m : Int) - 1 := by omega
     exact ⟨m - 1, by omega, by omega, rfl, by rw [e], hR1, hO1, hK1, HJ3⟩
   ·have hmE : m = E := by have h := HJ2.out; simpa using h
    have HME := Lib.hid hmE
    clear hmE
    have hN2 : Num (W1.alloc (.cells #[.int .i64 (m : Int)] 3)) W1.heap.size m := World.alloc_heap_new _ _
    have hR2 := hR1.alloc (.cells #[.int .i64 (m : Int)] 3)
    have hlt := hR1.lt
    have hB2 : Below W1.heap.size W1 (W1.alloc (.cells #[.int .i64 (m : Int)] 3)) := (Below.refl _ _).alloc (Nat.le_refl _) _
    go_wp2_with fail
    change Calls _ _ _ (W1.alloc (.cells #[.int .i64 (m : Int)] 3)) _
    generalize W1.alloc (.cells #[.int .i64 (m : Int)] 3) = W2 at *
    refine (pass_left hR2 hN2 (by omega) (by omega) (by omega) hkm hs).mono ?_
    rintro e w3 ⟨rfl, hR3, hk3⟩
    have hK3 : Kp w w3 b b := ⟨hk3.os.trans (hB2.os.trans hK1.os), hk3.tape.trans (hB2.tape.trans hK1.tape), hk3.output.trans (hB2.output.trans hK1.output), Nat.le_trans hK1.size (Nat.le_trans hB2.size hk3.size), fun j hj h1 h2 => by
     have hj1 : j < W1.heap.size := Nat.lt_of_lt_of_le hj hK1.size
     exact (hk3.block j (Nat.lt_of_lt_of_le hj1 hB2.size) h1 (by omega)).trans ((hB2.block j hj1).trans (hK1.block j hj h1 h2))⟩
    go_wp2
    go_ret
    exact ⟨m, HME.out, rfl, hR3, hK3⟩
  ·obtain rfl : m = 0 := by omega
   have hE0 : E = 0 := by rw [← HJ.out]; rfl
   have HE0 := Lib.hid hE0
   clear hE0
   go_wp2
   go_ret
   refine ⟨0, HE0.out.symm, ?_, hR, hK⟩
   rw [extract_none]
   rfl
end Go.Proofs.YtjmlmelcppbefaaGreatDoor
