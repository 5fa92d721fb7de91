/- What the syntax texts share, part 14. No condition. -/
import Derived.Test.YtjmlmelcppbefaaGreatDoorT13
namespace Go.Proofs.YtjmlmelcppbefaaGreatDoor
open Go.RowKit Go.Maps
theorem empty_list : ByteArray.toList ⟨#[]⟩ = [] := by
 unfold ByteArray.toList ByteArray.toList.loop
 rfl
set_option maxRecDepth 100000 in
set_option maxHeartbeats 8000000 in
theorem word_sgn {w : World} {b k gs : Nat} {s : ByteArray} {kw : Value} (hR : Rd w b s k kw (.map (some gs))) (hO : w.ownsMap Tryz.prog 9 (plainElem Tryz.prog 3) gs 20 (Lst sgL 20)) (hne : gs ≠ b) (hk : k < s.size) (hs : s.size ≤ 4294967296)
  (hc : isLet (byte s k) = false) (hd : isDig (byte s k) = false) :
  Calls Tryz.prog 112 #[.pointer (some ⟨b, 0, none⟩)] w (WPost w b s k kw (.map (some gs)) 4 (k + sgnF s k (min 2 (s.size - k))) 0 (if sgnF s k (min 2 (s.size - k)) = 0 then 110 else 0)) := by
 have hR0 := hR.alloc zTok
 have b0 := hR0.c0
 have b1 := hR0.c1
 obtain ⟨n, hn⟩ : ∃ n, sgnF s k (min 2 (s.size - k)) = n := ⟨_, rfl⟩
 rw [hn]
 have hnle : k + n ≤ s.size := by
  have h := sgnF_le s k (min 2 (s.size - k))
  rw [hn] at h
  omega
 have HN0 := Lib.hid hn
 clear hn
 obtain ⟨T, hT⟩ : ∃ T, s.extract k (k + n) = T := ⟨_, rfl⟩
 have hTs : T.size = n := by rw [← hT, ByteArray.size_extract]; omega
 obtain ⟨er, her⟩ : ∃ er : Int, (if n = 0 then 110 else 0) = er := ⟨_, rfl⟩
 rw [her]
 have HER := Lib.hid her
 have HT := Lib.hid hT
 have HTS := Lib.hid hTs
 clear her hT hTs
 have hZ : Tk (w.alloc zTok) w.heap.size 0 ⟨#[]⟩ 0 (0, 0) := World.alloc_heap_new _ _
 have hZ1 := hZ.alloc (pTok (posAt s k))
 have hP : Tk ((w.alloc zTok).alloc (pTok (posAt s k))) (w.heap.size + 1) 0 ⟨#[]⟩ 0 (posAt s k) := by
  have h : Tk ((w.alloc zTok).alloc (pTok (posAt s k))) (w.alloc zTok).heap.size 0 ⟨#[]⟩ 0 (posAt s k) := World.alloc_heap_new _ _
  rw [World.size_alloc] at h
  exact h
 have hR1 := hR0.alloc (pTok (posAt s k))
 have hK1 : Kp w ((w.alloc zTok).alloc (pTok (posAt s k))) b b := ((Kp.refl w b b).alloc _).alloc _
 have hO1 := owns_keep hO hK1 hne hne
 have hlb := hR.lt
 have hlg := hO.lt
 go_enter Tryz.func112, Tryz.ntmps112
 go_wp2_with fail
 change Code.wp _ _ _ _ ((w.alloc zTok).alloc (pTok (posAt s k)))
 clear hR0 hZ hR hO b0 b1
 generalize (w.alloc zTok).alloc (pTok (posAt s k)) = W0 at *
 have b2 := hR1.c2
 have b3 := hR1.c3
 have hz : (k : Int) < (s.size : Int) := by omega
 have hbt := byte_at hk
 obtain ⟨c, hcc⟩ : ∃ c, byte s k = c := ⟨_, rfl⟩
 rw [hcc] at hbt hc hd
 clear hcc
 go_quiet (fail)
 rename_i nq
 obtain ⟨W1, hW1⟩ : ∃ W, W0.drewN nq = W := ⟨_, rfl⟩
 have hZ2 : Tk W1 w.heap.size 0 ⟨#[]⟩ 0 (0, 0) := by rw [← hW1]; exact hZ1
 have hP2 : Tk W1 (w.heap.size + 1) 0 ⟨#[]⟩ 0 (posAt s k) := by rw [← hW1]; exact hP
 have hR2 : Rd W1 b s k kw (.map (some gs)) := by rw [← hW1]; exact hR1
 have hK2 : Kp w W1 b b := by rw [← hW1]; exact hK1.drewN nq
 have hO2 : W1.ownsMap Tryz.prog 9 (plainElem Tryz.prog 3) gs 20 (Lst sgL 20) := by rw [← hW1]; exact hO1
 rw [hW1]
 clear hW1 hZ1 hP hR1 hK1 hO1 b2 b3
 go_wp2_with fail
 refine (letter_any c _).mono ?_
 rw [hc]
 rintro e w' ⟨rfl, rfl⟩
 go_wp2_with fail
 refine (digit_any c _).mono ?_
 rw [hd]
 rintro e w' ⟨rfl, rfl⟩
 go_wp2_with fail
 refine (sign_any hR2 hO2 hne hk hs).mono ?_
 rintro e W2 ⟨n0, hn0, rfl, hR3, hk3⟩
 rw [HN0.out] at hn0
 subst hn0
 rw [HT.out]
 have hK3 := hK2.trans hk3
 have hZ3 := hZ2.of (hk3.block _ hZ2.lt (by omega) (by omega))
 have hP3 := hP2.of (hk3.block _ hP2.lt (by omega) (by omega))
 clear hZ2 hP2 hR2 hK2 hO2 hk3
 have d0 := hP3.c0
 have d1 := hP3.c1
 have d2 := hP3.c2
 have d3 := hP3.c3
 have d4 := hP3.c4
 have e0 := hP3.frozen 0
 have e1 := hP3.frozen 1
 have z0 := hZ3.c0
 have z1 := hZ3.c1
 have z2 := hZ3.c2
 have z3 := hZ3.c3
 have z4 := hZ3.c4
 have y0 := hZ3.frozen 0
 have y1 := hZ3.frozen 1
 have y2 := hZ3.frozen 2
 have y3 := hZ3.frozen 3
 have y4 := hZ3.frozen 4
 have fin : ∀ (W : World) (v : Int), Tk W w.heap.size 0 ⟨#[]⟩ 0 (0, 0) → Rd W b s (k + n0) kw (.map (some gs)) → Kp w W b b → v = er →
   let W' := ((((W.setCell ⟨w.heap.size, 0, none⟩ (.int .i64 4)).setCell ⟨w.heap.size, 1, none⟩ (.string T)).setCell ⟨w.heap.size, 2, none⟩ (.int .i64 0)).setCell ⟨w.heap.size, 3, none⟩ (.int .i64 (posAt s k).1)).setCell ⟨w.heap.size, 4, none⟩ (.int .i64 (posAt s k).2)
   Tk W' w.heap.size 4 T 0 ((posAt s k).1, (posAt s k).2) ∧ WPost w b s k kw (.map (some gs)) 4 (k + n0) 0 er (.returned (.tuple #[.agg #[.int .i64 4, .string T, .int .i64 0, .int .i64 (posAt s k).1, .int .i64 (posAt s k).2], .int .i64 v])) W' := by
  intro W v h1 h2 h3 hv
  subst hv
  have hb : b ≠ w.heap.size := by omega
  refine ⟨h1.set5 4 T 0 _ _, by rw [HT.out], ((((h2.other hb 0 _).other hb 1 _).other hb 2 _).other hb 3 _).other hb 4 _, ?_⟩
  exact ((((h3.setNew (Nat.le_refl _) 0 _).setNew (Nat.le_refl _) 1 _).setNew (Nat.le_refl _) 2 _).setNew (Nat.le_refl _) 3 _).setNew (Nat.le_refl _) 4 _
 have HF := Lib.hid fin
 clear fin
 have hbb : b ≠ w.heap.size + 1 := by omega
 obtain ⟨q, hq⟩ : ∃ q, (T.toList == ([] : List UInt8)) = q := ⟨_, rfl⟩
 by_cases h00 : n0 = 0
 ·have he1 : (110 : Int) = er := by have h := HER.out; rw [if_pos h00] at h; exact h
  have HE1 := Lib.hid he1
  have hT0 : T = ⟨#[]⟩ := by
   apply ByteArray.ext
   exact Array.eq_empty_of_size_eq_zero (by have h := HTS.out; rw [h00] at h; exact h)
  subst hT0
  clear he1 hq
  go_wp2
  obtain ⟨g1, g2⟩ := HF.out ((W2.setCell ⟨w.heap.size + 1, 1, none⟩ (.string ⟨#[]⟩)).setCell ⟨w.heap.size + 1, 0, none⟩ (.int .i64 4)) 110 ((hZ3.other (by omega) 1 _).other (by omega) 0 _) ((hR3.other hbb 1 _).other hbb 0 _) ((hK3.setNew (by omega) 1 _).setNew (by omega) 0 _) HE1.out
  exact end_tk g1 rfl rfl rfl rfl g2
 ·have he1 : (0 : Int) = er := by have h := HER.out; rw [if_neg h00] at h; exact h
  have HE1 := Lib.hid he1
  have hTn : (T.toList == ByteArray.toList ⟨#[]⟩) = false := by
   rw [Lib.bytes_beq_false_iff]
   intro h
   have h2 := HTS.out
   rw [h] at h2
   exact h00 h2.symm
  have hTn2 : ¬ T.toList = [] := by
   intro h
   rw [beq_eq_false_iff_ne] at hTn
   apply hTn
   rw [h, empty_list]
  have hTn3 : T.toList.isEmpty = false := by
   cases hl : T.toList with
   | nil => exact absurd hl hTn2
   | cons a l => rfl
  have hTn4 : (T.toList == []) = false := by
   cases hl : T.toList with
   | nil => exact absurd hl hTn2
   | cons a l => rfl
  clear he1 hq
  go_wp2
  obtain ⟨g1, g2⟩ := HF.out ((W2.setCell ⟨w.heap.size + 1, 1, none⟩ (.string T)).setCell ⟨w.heap.size + 1, 0, none⟩ (.int .i64 4)) 0 ((hZ3.other (by omega) 1 _).other (by omega) 0 _) ((hR3.other hbb 1 _).other hbb 0 _) ((hK3.setNew (by omega) 1 _).setNew (by omega) 0 _) HE1.out
  exact end_tk g1 rfl rfl rfl rfl g2
end Go.Proofs.YtjmlmelcppbefaaGreatDoor
namespace Go.Proofs.YtjmlmelcppbefaaGreatDoor
open Go.RowKit Go.Maps
def wKind (s : ByteArray) (k : Nat) : Int := if isLet (byte s k) then (if isKw (s.extract k (endOf isAny s k)).data.toList then 3 else 1) else if isDig (byte s k) then 2 else 4
def wEnd (s : ByteArray) (k : Nat) : Nat := if isLet (byte s k) then endOf isAny s k else if isDig (byte s k) then endOf isDig s k else k + sgnF s k (min 2 (s.size - k))
def wNum (s : ByteArray) (k : Nat) : Int := if isLet (byte s k) then 0 else if isDig (byte s k) then (if badP s k then 0 else (numP (s.extract k (endOf isDig s k)).data.toList).1) else 0
def wErr (s : ByteArray) (k : Nat) : Int :=
 if isLet (byte s k) then (if isKw (s.extract k (endOf isAny s k)).data.toList then 0 else if 16 < endOf isAny s k - k then 111 else 0)
 else if isDig (byte s k) then (if badP s k then 112 else 0) else (if sgnF s k (min 2 (s.size - k)) = 0 then 110 else 0)
theorem word_any {w : World} {b k gk gs : Nat} {s : ByteArray} (hR : Rd w b s k (.map (some gk)) (.map (some gs))) (hO : w.ownsMap Tryz.prog 9 (plainElem Tryz.prog 3) gk 20 (Lst kwL 20)) (hO2 : w.ownsMap Tryz.prog 9 (plainElem Tryz.prog 3) gs 20 (Lst sgL 20))
  (hne : gk ≠ b) (hne2 : gs ≠ b) (hk : k < s.size) (hs : s.size ≤ 4294967296) (hEr : ErrR w) (hb1 : b ≠ 7) :
  Calls Tryz.prog 112 #[.pointer (some ⟨b, 0, none⟩)] w (WPost w b s k (.map (some gk)) (.map (some gs)) (wKind s k) (wEnd s k) (wNum s k) (wErr s k)) := by
 unfold wKind wEnd wNum wErr
 cases hc : isLet (byte s k) with
 | true => exact word_let hR hO hne hk hs hc
 | false =>
  cases hd : isDig (byte s k) with
  | true => exact word_dig hR hO hne hk hs hEr hb1 hc hd
  | false => exact word_sgn hR hO2 hne2 hk hs hc hd
theorem wEnd_le {s : ByteArray} {k : Nat} (hk : k < s.size) : wEnd s k ≤ s.size := by
 unfold wEnd
 split
 ·exact (endOf_le (Nat.le_of_lt hk)).2
 ·split
  ·exact (endOf_le (Nat.le_of_lt hk)).2
  ·have h := sgnF_le s k (min 2 (s.size - k))
   omega
theorem wEnd_gt {s : ByteArray} {k : Nat} (hk : k < s.size) (h0 : wErr s k = 0) : k < wEnd s k := by
 unfold wErr at h0
 unfold wEnd
 cases hc : isLet (byte s k) with
 | true => exact endOf_lt hk (by unfold isAny; rw [hc]; rfl)
 | false =>
  cases hd : isDig (byte s k) with
  | true => exact endOf_lt hk hd
  | false =>
   rw [hc, hd] at h0
   simp only [Bool.false_eq_true, if_false] at h0 ⊢
   split at h0
   ·cases h0
   ·omega
end Go.Proofs.YtjmlmelcppbefaaGreatDoor
namespace Go.Proofs.YtjmlmelcppbefaaGreatDoor
open Go.RowKit
end Go.Proofs.YtjmlmelcppbefaaGreatDoor
namespace Go.Proofs.YtjmlmelcppbefaaGreatDoor
open Go.RowKit
end Go.Proofs.YtjmlmelcppbefaaGreatDoor
