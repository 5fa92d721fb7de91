/- What the syntax texts share, part 12. No condition. -/
import Derived.Test.YtjmlmelcppbefaaGreatDoorT09
namespace Go.Proofs.YtjmlmelcppbefaaGreatDoor
open Go.RowKit Go.Maps
def WPost (w : World) (b : Nat) (s : ByteArray) (k : Nat) (kw sg : Value) (kind : Int) (e : Nat) (num err : Int) (x : Ending) (w' : World) : Prop :=
 x = .returned (.tuple #[.agg #[.int .i64 kind, .string (s.extract k e), .int .i64 num, .int .i64 (posAt s k).1, .int .i64 (posAt s k).2], .int .i64 err]) ∧ Rd w' b s e kw sg ∧ Kp w w' b b
abbrev zTok : Obj := .cells #[.int .i64 0, .string ⟨#[]⟩, .int .i64 0, .int .i64 0, .int .i64 0] 91
abbrev pTok (p : Int × Int) : Obj := .cells #[.int .i64 0, .string ⟨#[]⟩, .int .i64 0, .int .i64 p.1, .int .i64 p.2] 91
theorem owns_set {w : World} {g n : Nat} {D : DataW Unit} (h : w.ownsMap Tryz.prog 9 (plainElem Tryz.prog 3) g n D) {r : Nat} (hne : g ≠ r) (k : Nat) (u : Value) : (w.setCell ⟨r, k, none⟩ u).ownsMap Tryz.prog 9 (plainElem Tryz.prog 3) g n D := by
 obtain ⟨es, clock, h1, h2⟩ := h
 exact ⟨es, clock, (Below.heap_setCell w ⟨r, k, none⟩ u g hne).trans h1, h2⟩
set_option maxRecDepth 100000 in
set_option maxHeartbeats 8000000 in
theorem word_let {w : World} {b k gk : Nat} {s : ByteArray} {sg : Value} (hR : Rd w b s k (.map (some gk)) sg) (hO : w.ownsMap Tryz.prog 9 (plainElem Tryz.prog 3) gk 20 (Lst kwL 20)) (hne : gk ≠ b) (hk : k < s.size) (hs : s.size ≤ 4294967296)
  (hc : isLet (byte s k) = true) :
  Calls Tryz.prog 112 #[.pointer (some ⟨b, 0, none⟩)] w (WPost w b s k (.map (some gk)) sg (if isKw (s.extract k (endOf isAny s k)).data.toList then 3 else 1) (endOf isAny s k) 0 (if isKw (s.extract k (endOf isAny s k)).data.toList then 0 else if 16 < endOf isAny s k - k then 111 else 0)) := by
 have hR0 := hR.alloc zTok
 have b0 := hR0.c0
 have b1 := hR0.c1
 have hle := endOf_le (f := isAny) (Nat.le_of_lt hk)
 obtain ⟨E, hE⟩ : ∃ E, endOf isAny s k = E := ⟨_, rfl⟩
 have HE := Lib.hid hE
 rw [hE] at hle ⊢
 clear hE
 obtain ⟨T, hT⟩ : ∃ T, s.extract k E = T := ⟨_, rfl⟩
 have hTs : T.size = E - k := by rw [← hT, ByteArray.size_extract]; omega
 obtain ⟨kd, hkd⟩ : ∃ kd : Int, (if isKw (s.extract k E).data.toList then 3 else 1) = kd := ⟨_, rfl⟩
 obtain ⟨er, her⟩ : ∃ er : Int, (if isKw (s.extract k E).data.toList then 0 else if 16 < E - k then 111 else 0) = er := ⟨_, rfl⟩
 rw [hkd, her]
 rw [hT] at hkd her
 rw [← hTs] at her
 have HKD := Lib.hid hkd
 have HER := Lib.hid her
 have HT := Lib.hid hT
 have HTS := Lib.hid hTs
 clear hkd her hT hTs
 have hZ : Tk (w.alloc zTok) w.heap.size 0 ⟨#[]⟩ 0 (0, 0) := World.alloc_heap_new _ _
 have hZ1 := hZ.alloc (pTok (posAt s k))
 have hP : Tk ((w.alloc zTok).alloc (pTok (posAt s k))) (w.heap.size + 1) 0 ⟨#[]⟩ 0 (posAt s k) := by
  have h : Tk ((w.alloc zTok).alloc (pTok (posAt s k))) (w.alloc zTok).heap.size 0 ⟨#[]⟩ 0 (posAt s k) := World.alloc_heap_new _ _
  rw [World.size_alloc] at h
  exact h
 have hR1 := hR0.alloc (pTok (posAt s k))
 have hK1 : Kp w ((w.alloc zTok).alloc (pTok (posAt s k))) b b := ((Kp.refl w b b).alloc _).alloc _
 have hO1 := owns_keep hO hK1 hne hne
 have hlb := hR.lt
 have hlg := hO.lt
 go_enter Tryz.func112, Tryz.ntmps112
 go_wp2_with fail
 change Code.wp _ _ _ _ ((w.alloc zTok).alloc (pTok (posAt s k)))
 clear hR0 hZ hR hO b0 b1
 generalize (w.alloc zTok).alloc (pTok (posAt s k)) = W0 at *
 have b2 := hR1.c2
 have b3 := hR1.c3
 have hz : (k : Int) < (s.size : Int) := by omega
 have hbt := byte_at hk
 obtain ⟨c, hcc⟩ : ∃ c, byte s k = c := ⟨_, rfl⟩
 rw [hcc] at hbt hc
 clear hcc
 go_quiet (fail)
 rename_i nq
 obtain ⟨W1, hW1⟩ : ∃ W, W0.drewN nq = W := ⟨_, rfl⟩
 have hZ2 : Tk W1 w.heap.size 0 ⟨#[]⟩ 0 (0, 0) := by rw [← hW1]; exact hZ1
 have hP2 : Tk W1 (w.heap.size + 1) 0 ⟨#[]⟩ 0 (posAt s k) := by rw [← hW1]; exact hP
 have hR2 : Rd W1 b s k (.map (some gk)) sg := by rw [← hW1]; exact hR1
 have hK2 : Kp w W1 b b := by rw [← hW1]; exact hK1.drewN nq
 have hO2 : W1.ownsMap Tryz.prog 9 (plainElem Tryz.prog 3) gk 20 (Lst kwL 20) := by rw [← hW1]; exact hO1
 rw [hW1]
 clear hW1 hZ1 hP hR1 hK1 hO1 b2 b3
 go_wp2_with fail
 refine (letter_any c _).mono ?_
 rw [hc]
 rintro e w' ⟨rfl, rfl⟩
 go_wp2_with fail
 refine (pass_name hR2 (Nat.le_of_lt hk) hs).mono ?_
 rintro e W2 ⟨rfl, hR3, hk3⟩
 rw [HE.out] at hR3 ⊢
 rw [HT.out]
 have hK3 := hK2.trans hk3
 have hZ3 := hZ2.of (hk3.block _ hZ2.lt (by omega) (by omega))
 have hP3 := hP2.of (hk3.block _ hP2.lt (by omega) (by omega))
 have hO3 := owns_keep hO2 hk3 hne hne
 clear hZ2 hP2 hR2 hK2 hO2 hk3
 have d0 := hP3.c0
 have d1 := hP3.c1
 have e0 := hP3.frozen 0
 have e1 := hP3.frozen 1
 go_wp2_with fail
 change Code.wp _ _ _ _ ((W2.setCell ⟨w.heap.size + 1, 1, none⟩ (.string T)).setCell ⟨w.heap.size + 1, 0, none⟩ (.int .i64 1))
 have hP4 := (hP3.set1 T).set0 1
 have hZ4 := (hZ3.other (r := w.heap.size + 1) (by omega) 1 (.string T)).other (r := w.heap.size + 1) (by omega) 0 (.int .i64 1)
 have hR4 := (hR3.other (r := w.heap.size + 1) (by omega) 1 (.string T)).other (r := w.heap.size + 1) (by omega) 0 (.int .i64 1)
 have hK4 := (hK3.setNew (r := w.heap.size + 1) (by omega) 1 (.string T)).setNew (r := w.heap.size + 1) (by omega) 0 (.int .i64 1)
 have hO4 := owns_set (owns_set hO3 (r := w.heap.size + 1) (by omega) 1 (.string T)) (r := w.heap.size + 1) (by omega) 0 (.int .i64 1)
 clear hP3 hZ3 hR3 hK3 hO3 d0 d1 e0 e1
 generalize (W2.setCell ⟨w.heap.size + 1, 1, none⟩ (.string T)).setCell ⟨w.heap.size + 1, 0, none⟩ (.int .i64 1) = W4 at *
 have hTm : T.size ≤ maxLen := by
  rw [HTS.out]
  exact Nat.le_trans (Nat.le_trans (Nat.sub_le _ _) hle.2) (Nat.le_trans hs (by decide))
 have hlook : ∀ n, (Instr.lookup 124 (.map (some gk)) (.string T) false).run Tryz.prog (W4.drewN n) = .ok (.int .i64 (lastOf kwL T.data.toList 20)) (W4.drewN n) := fun n => look_at (W := W4.drewN n) hO4 T hTm
 have hpos := kw_pos T.data.toList
 obtain ⟨cc, hcc⟩ : ∃ cc, lastOf kwL T.data.toList 20 = cc := ⟨_, rfl⟩
 rw [hcc] at hlook hpos
 obtain ⟨q, hq⟩ : ∃ q, isKw T.data.toList = q := ⟨_, rfl⟩
 rw [hq] at hpos
 have HQ := Lib.hid hq
 clear hcc hq hTm hO4
 have b4 := hR4.c4
 have d1 := hP4.c1
 go_quiet (fail)
 rename_i nq
 obtain ⟨W5, hW5⟩ : ∃ W, W4.drewN nq = W := ⟨_, rfl⟩
 have hZ5 : Tk W5 w.heap.size 0 ⟨#[]⟩ 0 (0, 0) := by rw [← hW5]; exact hZ4
 have hP5 : Tk W5 (w.heap.size + 1) 1 T 0 (posAt s k) := by rw [← hW5]; exact hP4
 have hR5 : Rd W5 b s E (.map (some gk)) sg := by rw [← hW5]; exact hR4
 have hK5 : Kp w W5 b b := by rw [← hW5]; exact hK4.drewN nq
 rw [hW5]
 clear hW5 hZ4 hP4 hR4 hK4 b4 d1 hlook
 have d0 := hP5.c0
 have d1 := hP5.c1
 have d2 := hP5.c2
 have d3 := hP5.c3
 have d4 := hP5.c4
 have e0 := hP5.frozen 0
 have z0 := hZ5.c0
 have z1 := hZ5.c1
 have z2 := hZ5.c2
 have z3 := hZ5.c3
 have z4 := hZ5.c4
 have y0 := hZ5.frozen 0
 have y1 := hZ5.frozen 1
 have y2 := hZ5.frozen 2
 have y3 := hZ5.frozen 3
 have y4 := hZ5.frozen 4
 have fin : ∀ (W : World) (x : Int) (v : Int), Tk W w.heap.size 0 ⟨#[]⟩ 0 (0, 0) → Rd W b s E (.map (some gk)) sg → Kp w W b b → x = kd → v = er →
   let W' := ((((W.setCell ⟨w.heap.size, 0, none⟩ (.int .i64 x)).setCell ⟨w.heap.size, 1, none⟩ (.string T)).setCell ⟨w.heap.size, 2, none⟩ (.int .i64 0)).setCell ⟨w.heap.size, 3, none⟩ (.int .i64 (posAt s k).1)).setCell ⟨w.heap.size, 4, none⟩ (.int .i64 (posAt s k).2)
   Tk W' w.heap.size x T 0 ((posAt s k).1, (posAt s k).2) ∧ WPost w b s k (.map (some gk)) sg kd E 0 er (.returned (.tuple #[.agg #[.int .i64 x, .string T, .int .i64 0, .int .i64 (posAt s k).1, .int .i64 (posAt s k).2], .int .i64 v])) W' := by
  intro W x v h1 h2 h3 hx hv
  subst hx hv
  have hb : b ≠ w.heap.size := by omega
  refine ⟨h1.set5 x T 0 _ _, by rw [HT.out], ((((h2.other hb 0 _).other hb 1 _).other hb 2 _).other hb 3 _).other hb 4 _, ?_⟩
  exact ((((h3.setNew (Nat.le_refl _) 0 _).setNew (Nat.le_refl _) 1 _).setNew (Nat.le_refl _) 2 _).setNew (Nat.le_refl _) 3 _).setNew (Nat.le_refl _) 4 _
 have HF := Lib.hid fin
 clear fin
 cases q
 ·have hkd1 : (1 : Int) = kd := by have h := HKD.out; rw [HQ.out] at h; simpa using h
  have HK1 := Lib.hid hkd1
  clear hkd1
  by_cases h16 : 16 < T.size
  ·have h16i : (16 : Int) < (T.size : Int) := by omega
   have her1 : (111 : Int) = er := by have h := HER.out; rw [HQ.out] at h; simpa [h16] using h
   have HE1 := Lib.hid her1
   clear her1
   go_wp2
   obtain ⟨g1, g2⟩ := HF.out W5 1 111 hZ5 hR5 hK5 HK1.out HE1.out
   exact end_tk g1 rfl rfl rfl rfl g2
  ·have h16i : ¬ (16 : Int) < (T.size : Int) := by omega
   have her1 : (0 : Int) = er := by have h := HER.out; rw [HQ.out] at h; simpa [h16] using h
   have HE1 := Lib.hid her1
   clear her1
   go_wp2
   obtain ⟨g1, g2⟩ := HF.out W5 1 0 hZ5 hR5 hK5 HK1.out HE1.out
   exact end_tk g1 rfl rfl rfl rfl g2
 ·have hkd1 : (3 : Int) = kd := by have h := HKD.out; rw [HQ.out] at h; simpa using h
  have her1 : (0 : Int) = er := by have h := HER.out; rw [HQ.out] at h; simpa using h
  have HK1 := Lib.hid hkd1
  have HE1 := Lib.hid her1
  clear hkd1 her1
  go_wp2
  have hb : b ≠ w.heap.size + 1 := by omega
  obtain ⟨g1, g2⟩ := HF.out (W5.setCell ⟨w.heap.size + 1, 0, none⟩ (.int .i64 3)) 3 0 (hZ5.other (by omega) 0 _) (hR5.other hb 0 _) (hK5.setNew (by omega) 0 _) HK1.out HE1.out
  exact end_tk g1 rfl rfl rfl rfl g2
end Go.Proofs.YtjmlmelcppbefaaGreatDoor
