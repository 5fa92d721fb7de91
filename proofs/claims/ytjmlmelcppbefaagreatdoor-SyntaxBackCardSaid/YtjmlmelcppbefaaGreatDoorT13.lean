/- What the syntax texts share, part 13. No condition. -/
import Derived.Test.YtjmlmelcppbefaaGreatDoorT12
namespace Go.Proofs.YtjmlmelcppbefaaGreatDoor
open Go.RowKit Go.Maps
theorem extract_while (f : UInt8 → Bool) (s : ByteArray) (k : Nat) : (s.extract k (endOf f s k)).data.toList = (s.data.toList.drop k).takeWhile f := by
 rw [ByteArray.data_extract, Array.toList_extract, List.extract_eq_take_drop]
 have h := List.prefix_iff_eq_take.1 (List.takeWhile_prefix (l := s.data.toList.drop k) f)
 unfold endOf
 rw [Nat.add_sub_cancel_left]
 exact h.symm
theorem while_all (f : UInt8 → Bool) (l : List UInt8) : ∀ c ∈ l.takeWhile f, f c = true := by
 induction l with
 | nil => intro c hc; cases hc
 | cons x r ih =>
  intro c hc
  by_cases h : f x = true
  ·rw [List.takeWhile_cons_of_pos h] at hc
   rcases List.mem_cons.1 hc with rfl | hc
   ·exact h
   ·exact ih c hc
  ·rw [List.takeWhile_cons_of_neg h] at hc
   cases hc
theorem extract_all {f : UInt8 → Bool} {s : ByteArray} {k : Nat} : ∀ c ∈ (s.extract k (endOf f s k)).data.toList, f c = true := by
 rw [extract_while]
 intro c hc
 exact while_all f _ c hc
theorem endOf_lt {f : UInt8 → Bool} {s : ByteArray} {k : Nat} (hk : k < s.size) (h : f (byte s k) = true) : k < endOf f s k := by
 rw [← endOf_yes hk h]
 exact endOf_ge f s (k + 1)
def badP (s : ByteArray) (k : Nat) : Bool := !(numP (s.extract k (endOf isDig s k)).data.toList).2 || (decide (endOf isDig s k < s.size) && isLet (byte s (endOf isDig s k)))
theorem ErrR.keep {w w' : World} {b : Nat} (h : ErrR w) (hk : Kp w w' b b) (hb : 7 ≠ b) : ErrR w' := by
 obtain ⟨h1, te, pe, hcell⟩ := h
 refine ⟨Nat.lt_of_lt_of_le h1 hk.size, te, pe, ?_⟩
 rw [← hcell]
 unfold World.cell?
 rw [hk.block 7 h1 hb hb]
set_option maxRecDepth 100000 in
set_option maxHeartbeats 8000000 in
theorem word_dig {w : World} {b k gk : Nat} {s : ByteArray} {sg : Value} (hR : Rd w b s k (.map (some gk)) sg) (hO : w.ownsMap Tryz.prog 9 (plainElem Tryz.prog 3) gk 20 (Lst kwL 20)) (hne : gk ≠ b) (hk : k < s.size) (hs : s.size ≤ 4294967296) (hEr : ErrR w) (hb1 : b ≠ 7)
  (hc : isLet (byte s k) = false) (hd : isDig (byte s k) = true) :
  Calls Tryz.prog 112 #[.pointer (some ⟨b, 0, none⟩)] w (WPost w b s k (.map (some gk)) sg 2 (endOf isDig s k) (if badP s k then 0 else (numP (s.extract k (endOf isDig s k)).data.toList).1) (if badP s k then 112 else 0)) := by
 have hR0 := hR.alloc zTok
 have b0 := hR0.c0
 have b1 := hR0.c1
 have hle := endOf_le (f := isDig) (Nat.le_of_lt hk)
 obtain ⟨E, hE⟩ : ∃ E, endOf isDig s k = E := ⟨_, rfl⟩
 have HE := Lib.hid hE
 rw [hE] at hle ⊢
 clear hE
 obtain ⟨T, hT⟩ : ∃ T, s.extract k E = T := ⟨_, rfl⟩
 have hTs : T.size = E - k := by rw [← hT, ByteArray.size_extract]; omega
 have hTd : ∀ c ∈ T.data.toList, isDig c = true := by rw [← hT, ← HE.out]; exact extract_all
 have hEk : k < E := by rw [← HE.out]; exact endOf_lt hk hd
 obtain ⟨nv, hnv⟩ : ∃ nv, (numP T.data.toList).1 = nv := ⟨_, rfl⟩
 obtain ⟨ok, hok⟩ : ∃ ok, (numP T.data.toList).2 = ok := ⟨_, rfl⟩
 have hbad : badP s k = (!ok || (decide (E < s.size) && isLet (byte s E))) := by unfold badP; rw [HE.out, hT, hok]
 obtain ⟨bad, hb0⟩ : ∃ bad, badP s k = bad := ⟨_, rfl⟩
 rw [hb0] at hbad ⊢
 rw [hT, hnv]
 obtain ⟨nm, hnm⟩ : ∃ nm : Int, (if bad then 0 else nv) = nm := ⟨_, rfl⟩
 obtain ⟨er, her⟩ : ∃ er : Int, (if bad then 112 else 0) = er := ⟨_, rfl⟩
 rw [hnm, her]
 have HNM := Lib.hid hnm
 have HER := Lib.hid her
 have HT := Lib.hid hT
 have HTS := Lib.hid hTs
 have HB := Lib.hid hbad
 have HNV := Lib.hid hnv
 have HOK := Lib.hid hok
 have HTD := Lib.hid hTd
 clear hT hTs hb0 hbad hnv hok hnm her hTd
 have hZ : Tk (w.alloc zTok) w.heap.size 0 ⟨#[]⟩ 0 (0, 0) := World.alloc_heap_new _ _
 have hZ1 := hZ.alloc (pTok (posAt s k))
 have hP : Tk ((w.alloc zTok).alloc (pTok (posAt s k))) (w.heap.size + 1) 0 ⟨#[]⟩ 0 (posAt s k) := by
  have h : Tk ((w.alloc zTok).alloc (pTok (posAt s k))) (w.alloc zTok).heap.size 0 ⟨#[]⟩ 0 (posAt s k) := World.alloc_heap_new _ _
  rw [World.size_alloc] at h
  exact h
 have hR1 := hR0.alloc (pTok (posAt s k))
 have hK1 : Kp w ((w.alloc zTok).alloc (pTok (posAt s k))) b b := ((Kp.refl w b b).alloc _).alloc _
 have hO1 := owns_keep hO hK1 hne hne
 have hlb := hR.lt
 have hlg := hO.lt
 go_enter Tryz.func112, Tryz.ntmps112
 go_wp2_with fail
 change Code.wp _ _ _ _ ((w.alloc zTok).alloc (pTok (posAt s k)))
 clear hR0 hZ hR hO b0 b1
 generalize (w.alloc zTok).alloc (pTok (posAt s k)) = W0 at *
 have b2 := hR1.c2
 have b3 := hR1.c3
 have hz : (k : Int) < (s.size : Int) := by omega
 have hbt := byte_at hk
 obtain ⟨c, hcc⟩ : ∃ c, byte s k = c := ⟨_, rfl⟩
 rw [hcc] at hbt hc hd
 clear hcc
 go_quiet (fail)
 rename_i nq
 obtain ⟨W1, hW1⟩ : ∃ W, W0.drewN nq = W := ⟨_, rfl⟩
 have hZ2 : Tk W1 w.heap.size 0 ⟨#[]⟩ 0 (0, 0) := by rw [← hW1]; exact hZ1
 have hP2 : Tk W1 (w.heap.size + 1) 0 ⟨#[]⟩ 0 (posAt s k) := by rw [← hW1]; exact hP
 have hR2 : Rd W1 b s k (.map (some gk)) sg := by rw [← hW1]; exact hR1
 have hK2 : Kp w W1 b b := by rw [← hW1]; exact hK1.drewN nq
 have hO2 : W1.ownsMap Tryz.prog 9 (plainElem Tryz.prog 3) gk 20 (Lst kwL 20) := by rw [← hW1]; exact hO1
 rw [hW1]
 clear hW1 hZ1 hP hR1 hK1 hO1 b2 b3
 go_wp2_with fail
 refine (letter_any c _).mono ?_
 rw [hc]
 rintro e w' ⟨rfl, rfl⟩
 go_wp2_with fail
 refine (digit_any c _).mono ?_
 rw [hd]
 rintro e w' ⟨rfl, rfl⟩
 go_wp2_with fail
 refine (pass_dig hR2 (Nat.le_of_lt hk) hs).mono ?_
 rintro e W2 ⟨rfl, hR3, hk3⟩
 rw [HE.out] at hR3 ⊢
 rw [HT.out]
 have hK3 := hK2.trans hk3
 have hZ3 := hZ2.of (hk3.block _ hZ2.lt (by omega) (by omega))
 have hP3 := hP2.of (hk3.block _ hP2.lt (by omega) (by omega))
 have hO3 := owns_keep hO2 hk3 hne hne
 clear hZ2 hP2 hR2 hK2 hO2 hk3
 have d0 := hP3.c0
 have d1 := hP3.c1
 have e0 := hP3.frozen 0
 have e1 := hP3.frozen 1
 go_wp2_with fail
 change Calls _ _ _ ((W2.setCell ⟨w.heap.size + 1, 1, none⟩ (.string T)).setCell ⟨w.heap.size + 1, 0, none⟩ (.int .i64 2)) _
 have hP4 := (hP3.set1 T).set0 2
 have hZ4 := (hZ3.other (r := w.heap.size + 1) (by omega) 1 (.string T)).other (r := w.heap.size + 1) (by omega) 0 (.int .i64 2)
 have hR4 := (hR3.other (r := w.heap.size + 1) (by omega) 1 (.string T)).other (r := w.heap.size + 1) (by omega) 0 (.int .i64 2)
 have hK4 := (hK3.setNew (r := w.heap.size + 1) (by omega) 1 (.string T)).setNew (r := w.heap.size + 1) (by omega) 0 (.int .i64 2)
 have hEr4 := hEr.keep hK4 (fun e => hb1 e.symm)
 have hl2 := hEr.1
 clear hP3 hZ3 hR3 hK3 d0 d1 e0 e1 hO3
 generalize (W2.setCell ⟨w.heap.size + 1, 1, none⟩ (.string T)).setCell ⟨w.heap.size + 1, 0, none⟩ (.int .i64 2) = W4 at *
 refine (number_any T W4 (by rw [HTS.out]; omega) (by rw [HTS.out]; omega) HTD.out hEr4).mono ?_
 rw [HNV.out, HOK.out]
 rintro e W5 ⟨rfl, hb5⟩
 have hZ5 := hZ4.of (hb5.block _ hZ4.lt)
 have hP5 := hP4.of (hb5.block _ hP4.lt)
 have hR5 := hR4.belowS hb5
 have hK5 := hK4.trans (Kp.below hb5)
 clear hZ4 hP4 hR4 hK4 hb5 hEr4
 have b2 := hR5.c2
 have b3 := hR5.c3
 have fin : ∀ (W : World) (x : Int) (v : Int), Tk W w.heap.size 0 ⟨#[]⟩ 0 (0, 0) → Rd W b s E (.map (some gk)) sg → Kp w W b b → x = nm → v = er →
   let W' := ((((W.setCell ⟨w.heap.size, 0, none⟩ (.int .i64 2)).setCell ⟨w.heap.size, 1, none⟩ (.string T)).setCell ⟨w.heap.size, 2, none⟩ (.int .i64 x)).setCell ⟨w.heap.size, 3, none⟩ (.int .i64 (posAt s k).1)).setCell ⟨w.heap.size, 4, none⟩ (.int .i64 (posAt s k).2)
   Tk W' w.heap.size 2 T x ((posAt s k).1, (posAt s k).2) ∧ WPost w b s k (.map (some gk)) sg 2 E nm er (.returned (.tuple #[.agg #[.int .i64 2, .string T, .int .i64 x, .int .i64 (posAt s k).1, .int .i64 (posAt s k).2], .int .i64 v])) W' := by
  intro W x v h1 h2 h3 hx hv
  subst hx hv
  have hb : b ≠ w.heap.size := by omega
  refine ⟨h1.set5 2 T x _ _, by rw [HT.out], ((((h2.other hb 0 _).other hb 1 _).other hb 2 _).other hb 3 _).other hb 4 _, ?_⟩
  exact ((((h3.setNew (Nat.le_refl _) 0 _).setNew (Nat.le_refl _) 1 _).setNew (Nat.le_refl _) 2 _).setNew (Nat.le_refl _) 3 _).setNew (Nat.le_refl _) 4 _
 have HF := Lib.hid fin
 clear fin
 have hbb : b ≠ w.heap.size + 1 := by omega
 cases ok
 ·have hbd : bad = true := by have h := HB.out; simpa using h
  have hn1 : (0 : Int) = nm := by have h := HNM.out; rw [hbd] at h; simpa using h
  have he1 : (112 : Int) = er := by have h := HER.out; rw [hbd] at h; simpa using h
  have HN1 := Lib.hid hn1
  have HE1 := Lib.hid he1
  clear hn1 he1 hbd
  go_wp2_with fail
  go_quiet (fail)
  rename_i nq
  obtain ⟨W6, hW6⟩ : ∃ W, W5.drewN nq = W := ⟨_, rfl⟩
  have hZ6 : Tk W6 w.heap.size 0 ⟨#[]⟩ 0 (0, 0) := by rw [← hW6]; exact hZ5
  have hP6 : Tk W6 (w.heap.size + 1) 2 T 0 (posAt s k) := by rw [← hW6]; exact hP5
  have hR6 : Rd W6 b s E (.map (some gk)) sg := by rw [← hW6]; exact hR5
  have hK6 : Kp w W6 b b := by rw [← hW6]; exact hK5.drewN nq
  rw [hW6]
  clear hW6 hZ5 hP5 hR5 hK5 b2 b3
  have d0 := hP6.c0
  have d1 := hP6.c1
  have d2 := hP6.c2
  have d3 := hP6.c3
  have d4 := hP6.c4
  have e2 := hP6.frozen 2
  have z0 := hZ6.c0
  have z1 := hZ6.c1
  have z2 := hZ6.c2
  have z3 := hZ6.c3
  have z4 := hZ6.c4
  have y0 := hZ6.frozen 0
  have y1 := hZ6.frozen 1
  have y2 := hZ6.frozen 2
  have y3 := hZ6.frozen 3
  have y4 := hZ6.frozen 4
  go_wp2
  obtain ⟨g1, g2⟩ := HF.out W6 0 112 hZ6 hR6 hK6 HN1.out HE1.out
  exact end_tk g1 rfl rfl rfl rfl g2
 ·by_cases hE2 : E < s.size
  ·have hz2 : (E : Int) < (s.size : Int) := by omega
   have hbt2 := byte_at hE2
   obtain ⟨c2, hc2⟩ : ∃ c2, byte s E = c2 := ⟨_, rfl⟩
   rw [hc2] at hbt2
   obtain ⟨q2, hq2⟩ : ∃ q2, isLet c2 = q2 := ⟨_, rfl⟩
   have hbq : bad = q2 := by have h := HB.out; rw [hc2, hq2, decide_eq_true hE2] at h; simpa using h
   have HBQ := Lib.hid hbq
   have cl : ∀ W, Calls Tryz.prog 130 #[.int .u8 (c2.toNat : Int)] W fun e w' => e = .returned (.bool q2) ∧ w' = W := fun W => (letter_any c2 W).mono fun e w' h => ⟨by rw [h.1, hq2], h.2.symm⟩
   clear hc2 hq2 hbq
   go_wp2_with fail
   go_quiet ((go_at_call 130; exact Calls.quiet_of_same (cl _)))
   rename_i nq
   obtain ⟨W6, hW6⟩ : ∃ W, W5.drewN nq = W := ⟨_, rfl⟩
   have hZ6 : Tk W6 w.heap.size 0 ⟨#[]⟩ 0 (0, 0) := by rw [← hW6]; exact hZ5
   have hP6 : Tk W6 (w.heap.size + 1) 2 T 0 (posAt s k) := by rw [← hW6]; exact hP5
   have hR6 : Rd W6 b s E (.map (some gk)) sg := by rw [← hW6]; exact hR5
   have hK6 : Kp w W6 b b := by rw [← hW6]; exact hK5.drewN nq
   rw [hW6]
   clear hW6 hZ5 hP5 hR5 hK5 b2 b3
   clear cl
   cases q2
   ·have hbd : bad = false := by exact HBQ.out
    have hn1 : (nv : Int) = nm := by have h := HNM.out; rw [hbd] at h; simpa using h
    have he1 : (0 : Int) = er := by have h := HER.out; rw [hbd] at h; simpa using h
    have HN1 := Lib.hid hn1
    have HE1 := Lib.hid he1
    clear hn1 he1 hbd
    have d0 := hP6.c0
    have d1 := hP6.c1
    have d2 := hP6.c2
    have d3 := hP6.c3
    have d4 := hP6.c4
    have e2 := hP6.frozen 2
    have z0 := hZ6.c0
    have z1 := hZ6.c1
    have z2 := hZ6.c2
    have z3 := hZ6.c3
    have z4 := hZ6.c4
    have y0 := hZ6.frozen 0
    have y1 := hZ6.frozen 1
    have y2 := hZ6.frozen 2
    have y3 := hZ6.frozen 3
    have y4 := hZ6.frozen 4
    go_wp2
    obtain ⟨g1, g2⟩ := HF.out (W6.setCell ⟨w.heap.size + 1, 2, none⟩ (.int .i64 nv)) nv 0 (hZ6.other (by omega) 2 _) (hR6.other hbb 2 _) (hK6.setNew (by omega) 2 _) HN1.out HE1.out
    exact end_tk g1 rfl rfl rfl rfl g2
   ·have hbd : bad = true := by exact HBQ.out
    have hn1 : (0 : Int) = nm := by have h := HNM.out; rw [hbd] at h; simpa using h
    have he1 : (112 : Int) = er := by have h := HER.out; rw [hbd] at h; simpa using h
    have HN1 := Lib.hid hn1
    have HE1 := Lib.hid he1
    clear hn1 he1 hbd
    have d0 := hP6.c0
    have d1 := hP6.c1
    have d2 := hP6.c2
    have d3 := hP6.c3
    have d4 := hP6.c4
    have e2 := hP6.frozen 2
    have z0 := hZ6.c0
    have z1 := hZ6.c1
    have z2 := hZ6.c2
    have z3 := hZ6.c3
    have z4 := hZ6.c4
    have y0 := hZ6.frozen 0
    have y1 := hZ6.frozen 1
    have y2 := hZ6.frozen 2
    have y3 := hZ6.frozen 3
    have y4 := hZ6.frozen 4
    go_wp2
    obtain ⟨g1, g2⟩ := HF.out W6 0 112 hZ6 hR6 hK6 HN1.out HE1.out
    exact end_tk g1 rfl rfl rfl rfl g2
  ·have hbd : bad = false := by have h := HB.out; rw [decide_eq_false hE2] at h; simpa using h
   have hn1 : (nv : Int) = nm := by have h := HNM.out; rw [hbd] at h; simpa using h
   have he1 : (0 : Int) = er := by have h := HER.out; rw [hbd] at h; simpa using h
   have HN1 := Lib.hid hn1
   have HE1 := Lib.hid he1
   clear hn1 he1 hbd
   have hd2 : decide ((E : Int) < (s.size : Int)) = false := decide_eq_false (by omega)
   go_wp2_with fail
   go_quiet (fail)
   rename_i nq
   obtain ⟨W6, hW6⟩ : ∃ W, W5.drewN nq = W := ⟨_, rfl⟩
   have hZ6 : Tk W6 w.heap.size 0 ⟨#[]⟩ 0 (0, 0) := by rw [← hW6]; exact hZ5
   have hP6 : Tk W6 (w.heap.size + 1) 2 T 0 (posAt s k) := by rw [← hW6]; exact hP5
   have hR6 : Rd W6 b s E (.map (some gk)) sg := by rw [← hW6]; exact hR5
   have hK6 : Kp w W6 b b := by rw [← hW6]; exact hK5.drewN nq
   rw [hW6]
   clear hW6 hZ5 hP5 hR5 hK5 b2 b3
   have d0 := hP6.c0
   have d1 := hP6.c1
   have d2 := hP6.c2
   have d3 := hP6.c3
   have d4 := hP6.c4
   have e2 := hP6.frozen 2
   have z0 := hZ6.c0
   have z1 := hZ6.c1
   have z2 := hZ6.c2
   have z3 := hZ6.c3
   have z4 := hZ6.c4
   have y0 := hZ6.frozen 0
   have y1 := hZ6.frozen 1
   have y2 := hZ6.frozen 2
   have y3 := hZ6.frozen 3
   have y4 := hZ6.frozen 4
   go_wp2
   obtain ⟨g1, g2⟩ := HF.out (W6.setCell ⟨w.heap.size + 1, 2, none⟩ (.int .i64 nv)) nv 0 (hZ6.other (by omega) 2 _) (hR6.other hbb 2 _) (hK6.setNew (by omega) 2 _) HN1.out HE1.out
   exact end_tk g1 rfl rfl rfl rfl g2
end Go.Proofs.YtjmlmelcppbefaaGreatDoor
