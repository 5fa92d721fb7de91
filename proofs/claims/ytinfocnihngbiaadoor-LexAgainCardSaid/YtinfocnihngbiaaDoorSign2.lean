/- sign: the longest sign that is next is taken off. Asked: the reader lies, and its map of signs. -/
import Derived.Test.YtinfocnihngbiaaDoorSign
import Derived.IntWalk
namespace Go.Proofs.YtinfocnihngbiaaDoor
open Go.RowKit Go.Maps

theorem look_at {W : World} {g : Nat} {ss : List ByteArray} (h : W.ownsMap Tryd.prog 9 (plainElem Tryd.prog 3) g 20 (Lst ss 20)) (t : ByteArray) (ht : t.size ≤ maxLen) :
    (Instr.lookup 50 (.map (some g)) (.string t) false).run Tryd.prog W = .ok (.int .i64 (lastOf ss t.data.toList 20)) W := by
  obtain ⟨c, hrun, hat, _⟩ := h.lookup_int law Tryd.underlying50 Tryd.underlying3 (zero3 _) (Go.WideMaps.keyOf_string_mk Tryd.underlying9 (s := t) ht)
  rw [lst_at] at hat
  have hc : lastOf ss t.data.toList 20 = c := by simpa using hat
  rw [hc]
  exact hrun
/-- How long the sign is, of at most m bytes from byte k on. -/
def sgnF (s : ByteArray) (k : Nat) : Nat → Nat
  | 0 => 0
  | m + 1 => if isSg (s.extract k (k + (m + 1))).data.toList then m + 1 else sgnF s k m
theorem sgnF_le (s : ByteArray) (k m : Nat) : sgnF s k m ≤ m := by
  induction m with
  | zero => exact Nat.le_refl _
  | succ m ih =>
    unfold sgnF
    split
    · exact Nat.le_refl _
    · omega
theorem extract_le (s : ByteArray) (k j : Nat) (h : s.size ≤ maxLen) : (s.extract k j).size ≤ maxLen := by
  rw [ByteArray.size_extract]
  omega
theorem extract_none (s : ByteArray) (k : Nat) : s.extract k (k + 0) = ⟨#[]⟩ := by
  apply ByteArray.ext
  simp

set_option maxRecDepth 100000 in
set_option maxHeartbeats 8000000 in
theorem sign_any {w : World} {b k gs : Nat} {s : ByteArray} {kw : Value} (hR : Rd w b s k kw (.map (some gs))) (hO : w.ownsMap Tryd.prog 9 (plainElem Tryd.prog 3) gs 20 (Lst sgL 20)) (_hne : gs ≠ b) (hk : k < s.size) (hs : s.size ≤ 4294967296) :
    Calls Tryd.prog 46 #[.pointer (some ⟨b, 0, none⟩)] w fun e w' => ∃ n, n = sgnF s k (min 2 (s.size - k)) ∧ e = .returned (.string (s.extract k (k + n))) ∧ Rd w' b s (k + n) kw (.map (some gs)) ∧ Kp w w' b b := by
  have b2 := hR.c2
  have b3 := hR.c3
  obtain ⟨M, hM⟩ : ∃ M, min 2 (s.size - k) = M := ⟨_, rfl⟩
  have hMz : (if (s.size : Int) - (k : Int) < 2 then (s.size : Int) - (k : Int) else 2) = (M : Int) := by split <;> omega
  have HMz := Lib.hid hMz
  clear hMz
  have hM1 : 1 ≤ M ∧ M ≤ 2 ∧ k + M ≤ s.size := by omega
  rw [hM]
  obtain ⟨E, hE⟩ : ∃ E, sgnF s k M = E := ⟨_, rfl⟩
  rw [hE]
  have HE := Lib.hid hE
  clear hE hM
  go_enter Tryd.func46, Tryd.ntmps46
  go_wp2_with fail
  go_quiet (fail)
  rename_i nq
  rw [HMz.out]
  obtain ⟨W0, hW0⟩ : ∃ W, w.drewN nq = W := ⟨_, rfl⟩
  have hR0 : Rd W0 b s k kw (.map (some gs)) := by rw [← hW0]; exact hR
  have hK0 : Kp w W0 b b := by rw [← hW0]; exact ⟨rfl, rfl, rfl, Nat.le_refl _, fun _ _ _ _ => rfl⟩
  have hO0 : W0.ownsMap Tryd.prog 9 (plainElem Tryd.prog 3) gs 20 (Lst sgL 20) := by rw [← hW0]; exact hO
  rw [hW0]
  clear hW0 hR hO b2 b3 HMz
  go_wp2_with fail
  go_loopg [3] M (fun x sl wr => ∃ m : Nat, m ≤ 2 ∧ k + m ≤ s.size ∧ x = m ∧ sl = .int .i64 m ∧ Rd wr b s k kw (.map (some gs)) ∧ wr.ownsMap Tryd.prog 9 (plainElem Tryd.prog 3) gs 20 (Lst sgL 20) ∧ Kp w wr b b ∧ Hid (sgnF s k m = E))
  case atStart => exact ⟨M, by omega, by omega, rfl, rfl, hR0, hO0, hK0, HE⟩
  case round =>
    clear hR0 hO0 hK0
    obtain ⟨m, hm2, hkm, hgm, rfl, hR, hO, hK, HJ⟩ := hrel
    have HGM := Lib.hid hgm
    clear hgm
    have b2 := hR.c2
    have b3 := hR.c3
    have b5 := hR.c5
    by_cases hm0 : 0 < m
    · have i1 : (0 : Int) < (m : Int) := by omega
      obtain ⟨J, hJ⟩ : ∃ J, k + m = J := ⟨_, rfl⟩
      have hun : sgnF s k m = if isSg (s.extract k (k + m)).data.toList then m else sgnF s k (m - 1) := by
        obtain ⟨m', rfl⟩ : ∃ m', m = m' + 1 := ⟨m - 1, by omega⟩
        rfl
      rw [hJ] at hun
      obtain ⟨t, ht⟩ : ∃ t, s.extract k J = t := ⟨_, rfl⟩
      rw [ht] at hun
      have hlook : ∀ n, (Instr.lookup 50 (.map (some gs)) (.string t) false).run Tryd.prog (wr.drewN n) = .ok (.int .i64 (lastOf sgL t.data.toList 20)) (wr.drewN n) := fun n => by
        refine look_at (W := wr.drewN n) hO t ?_
        rw [← ht]
        exact extract_le _ _ _ (Nat.le_trans hs (by decide))
      have hJ2 : (if isSg t.data.toList then m else sgnF s k (m - 1)) = E := by rw [← HJ.out, hun]
      clear hun
      have hpos := sg_pos t.data.toList
      obtain ⟨c, hc⟩ : ∃ c, lastOf sgL t.data.toList 20 = c := ⟨_, rfl⟩
      rw [hc] at hlook hpos
      obtain ⟨q, hq⟩ : ∃ q, isSg t.data.toList = q := ⟨_, rfl⟩
      rw [hq] at hpos hJ2
      have HJ2 := Lib.hid hJ2
      have HT := Lib.hid ht
      clear hc hq hJ2
      have w1 : IntKind.i64.wrap ((k : Int) + (m : Int)) = (J : Int) := by
        rw [IntWalk.i64_in _ (by omega)]
        omega
      have hhi : (J : Int) ≤ (s.size : Int) := by omega
      have hlo : (k : Int) ≤ (J : Int) := by omega
      have HJe := Lib.hid hJ
      clear hJ
      go_wp2_with fail
      go_quiet (fail)
      rename_i nq
      obtain ⟨W1, hW1⟩ : ∃ W, wr.drewN nq = W := ⟨_, rfl⟩
      have hR1 : Rd W1 b s k kw (.map (some gs)) := by rw [← hW1]; exact hR
      have hK1 : Kp w W1 b b := by rw [← hW1]; exact ⟨hK.os, hK.tape, hK.output, hK.size, hK.block⟩
      have hO1 : W1.ownsMap Tryd.prog 9 (plainElem Tryd.prog 3) gs 20 (Lst sgL 20) := by rw [← hW1]; exact hO
      rw [hW1]
      clear hW1 hR hK hO b2 b3 b5 hlook w1 hhi hlo
      cases q
      · have HJ3 := Lib.hid (show sgnF s k (m - 1) = E by have h := HJ2.out; simpa using h)
        go_wp2
        go_roundg (m - 1)
        case measure => have := HGM.out; omega
        case rel =>
          have e : ((m - 1 : Nat) : Int) = (m : Int) - 1 := by omega
          exact ⟨m - 1, by omega, by omega, rfl, by rw [e], hR1, hO1, hK1, HJ3⟩
      · have hmE : m = E := by have h := HJ2.out; simpa using h
        have HME := Lib.hid hmE
        clear hmE
        have hN2 : Num (W1.alloc (.cells #[.int .i64 (m : Int)] 3)) W1.heap.size m := World.alloc_heap_new _ _
        have hR2 := hR1.alloc (.cells #[.int .i64 (m : Int)] 3)
        have hlt := hR1.lt
        have hB2 : Below W1.heap.size W1 (W1.alloc (.cells #[.int .i64 (m : Int)] 3)) := (Below.refl _ _).alloc (Nat.le_refl _) _
        go_wp2_with fail
        change Calls _ _ _ (W1.alloc (.cells #[.int .i64 (m : Int)] 3)) _
        generalize W1.alloc (.cells #[.int .i64 (m : Int)] 3) = W2 at *
        refine (pass_left hR2 hN2 (by omega) (by omega) (by omega) hkm hs).mono ?_
        rintro e w3 ⟨rfl, hR3, hk3⟩
        have hK3 : Kp w w3 b b := ⟨hk3.os.trans (hB2.os.trans hK1.os), hk3.tape.trans (hB2.tape.trans hK1.tape), hk3.output.trans (hB2.output.trans hK1.output), Nat.le_trans hK1.size (Nat.le_trans hB2.size hk3.size), fun j hj h1 h2 => by
          have hj1 : j < W1.heap.size := Nat.lt_of_lt_of_le hj hK1.size
          exact (hk3.block j (Nat.lt_of_lt_of_le hj1 hB2.size) h1 (by omega)).trans ((hB2.block j hj1).trans (hK1.block j hj h1 h2))⟩
        go_wp2
        go_ret
        exact ⟨m, HME.out, rfl, hR3, hK3⟩
    · obtain rfl : m = 0 := by omega
      have hE0 : E = 0 := by rw [← HJ.out]; rfl
      have HE0 := Lib.hid hE0
      clear hE0
      go_wp2
      go_ret
      refine ⟨0, HE0.out.symm, ?_, hR, hK⟩
      rw [extract_none]
      rfl
end Go.Proofs.YtinfocnihngbiaaDoor
