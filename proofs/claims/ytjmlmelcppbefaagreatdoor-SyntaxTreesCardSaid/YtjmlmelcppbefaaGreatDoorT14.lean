/- What the syntax texts share, part 14. No condition. -/
import Derived.Test.YtjmlmelcppbefaaGreatDoorT13
namespace Go.Proofs.YtjmlmelcppbefaaGreatDoor
open Go.RowKit Go.Maps
theorem empty_list : ByteArray.toList ⟨#[]⟩ = [] := by
 unfold ByteArray.toList ByteArray.toList.loop
 rfl
set_option maxRecDepth 100000 in
set_option maxHeartbeats 8000000 in
theorem word_sgn {w : World} {b k gs : Nat} {s : ByteArray} {kw : Value} (hR : Rd w b s k kw (.map (some gs))) (hO : w.ownsMap Tryz.prog 9 (plainElem Tryz.prog 3) gs 20 (Lst sgL 20)) (hne : gs ≠ b) (hk : k < s.size) (hs : s.size ≤ 4294967296)
  (hc : isLet (byte s k) = false) (hd : isDig (byte s k) = false) :
  Calls Tryz.prog 112 #[.pointer (some ⟨b, 0, none⟩)] w (WPost w b s k kw (.map (some gs)) 4 (k + sgnF s k (min 2 (s.size - k))) 0 (if sgnF s k (min 2 (s.size - k)) = 0 then 110 else 0)) := by
 have hR0 := hR.alloc zTok
 have b0 := hR0.c0
 have b1 := hR0.c1
 obtain ⟨n, hn⟩ : ∃ n, sgnF s k (min 2 (s.size - k)) = n := ⟨_, rfl⟩
 rw [hn]
 have hnle : k + n ≤ s.size := by
  have h := sgnF_le s k (min 2 (s.size - k))
  rw [hn] at h
  omega
 have HN0 := Lib.hid hn
 clear hn
 obtain ⟨T, hT⟩ : ∃ T, s.extract k (k + n) = T := ⟨_, rfl⟩
 have hTs : T.size = n := by rw [← hT, ByteArray.size_extract]; omega
 obtain ⟨er, her⟩ : ∃ er : Int, (if n = 0 then 110 else 0) = er := ⟨_, rfl⟩
 rw [her]
 have HER := Lib.hid her
 have HT := Lib.hid hT
 have HTS := Lib.hid hTs
 clear her hT hTs
 have hZ : Tk (w.alloc zTok) w.heap.size 0 ⟨#[]⟩ 0 (0, 0) := World.alloc_heap_new _ _
 have hZ1 := hZ.alloc (pTok (posAt s k))
 have hP : Tk ((w.alloc zTok).alloc (pTok (posAt s k))) (w.heap.size + 1) 0 ⟨#[]⟩ 0 (posAt s k) := by
  have h : Tk ((w.alloc zTok).alloc (pTok (posAt s k))) (w.alloc zTok).heap.size 0 ⟨#[]⟩ 0 (posAt s k) := World.alloc_heap_new _ _
  rw [World.size_alloc] at h
  exact h
 have hR1 := hR0.alloc (pTok (posAt s k))
 have hK1 : Kp w ((w.alloc zTok).alloc (pTok (posAt s k))) b b := ((Kp.refl w b b).alloc _).alloc _
 have hO1 := owns_keep hO hK1 hne hne
 have hlb := hR.lt
 have hlg := hO.lt
 go_enter Tryz.func112, Tryz.ntmps112
 go_wp2_with fail
 change Code.wp _ _ _ _ ((w.alloc zTok).alloc (pTok (posAt s k)))
 clear hR0 hZ hR hO b0 b1
 generalize (w.alloc zTok).alloc (pTok (posAt s k)) = W0 at *
 have b2 := hR1.c2
 have b3 := hR1.c3
 have hz : (k : Int) < (s.size : Int) := by omega
 have hbt := byte_at hk
 obtain ⟨c, hcc⟩ : ∃ c, byte s k = c := ⟨_, rfl⟩
 rw [hcc] at hbt hc hd
 clear hcc
 go_quiet (fail)
 rename_i nq
 obtain ⟨W1, hW1⟩ : ∃ W, W0.drewN nq = W := ⟨_, rfl⟩
 have hZ2 : Tk W1 w.heap.size 0 ⟨#[]⟩ 0 (0, 0) := by rw [← hW1]; exact hZ1
 have hP2 : Tk W1 (w.heap.size + 1) 0 ⟨#[]⟩ 0 (posAt s k) := by rw [← hW1]; exact hP
 have hR2 : Rd W1 b s k kw (.map (some gs)) := by rw [← hW1]; exact hR1
 have hK2 : Kp w W1 b b := by rw [← hW1]; exact hK1.drewN nq
 have hO2 : W1.ownsMap Tryz.prog 9 (plainElem Tryz.prog 3) gs 20 (Lst sgL 20) := by rw [← hW1]; exact hO1
 rw [hW1]
 clear hW1 hZ1 hP hR1 hK1 hO1 b2 b3
 go_wp2_with fail
 refine (letter_any c _).mono ?_
 rw [hc]
 rintro e w' ⟨rfl, rfl⟩
 go_wp2_with fail
 refine (digit_any c _).mono ?_
 rw [hd]
 rintro e w' ⟨rfl, rfl⟩
 go_wp2_with fail
 refine (sign_any hR2 hO2 hne hk hs).mono ?_
 rintro e W2 ⟨n0, hn0, rfl, hR3, hk3⟩
 rw [HN0.out] at hn0
 subst hn0
 rw [HT.out]
 have hK3 := hK2.trans hk3
 have hZ3 := hZ2.of (hk3.block _ hZ2.lt (by omega) (by omega))
 have hP3 := hP2.of (hk3.block _ hP2.lt (by omega) (by omega))
 clear hZ2 hP2 hR2 hK2 hO2 hk3
 have d0 := hP3.c0
 have d1 := hP3.c1
 have d2 := hP3.c2
 have d3 := hP3.c3
 have d4 := hP3.c4
 have e0 := hP3.frozen 0
 have e1 := hP3.frozen 1
 have z0 := hZ3.c0
 have z1 := hZ3.c1
 have z2 := hZ3.c2
 have z3 := hZ3.c3
 have z4 := hZ3.c4
 have y0 := hZ3.frozen 0
 have y1 := hZ3.frozen 1
 have y2 := hZ3.frozen 2
 have y3 := hZ3.frozen 3
 have y4 := hZ3.frozen 4
 have fin : ∀ (W : World) (v : Int), Tk W w.heap.size 0 ⟨#[]⟩ 0 (0, 0) → Rd W b s (k + n0) kw (.map (some gs)) → Kp w W b b → v = er →
   let W' := ((((W.setCell ⟨w.heap.size, 0, none⟩ (.int .i64 4)).setCell ⟨w.heap.size, 1, none⟩ (.string T)).setCell ⟨w.heap.size, 2, none⟩ (.int .i64 0)).setCell ⟨w.heap.size, 3, none⟩ (.int .i64 (posAt s k).1)).setCell ⟨w.heap.size, 4, none⟩ (.int .i64 (posAt s k).2)
   Tk W' w.heap.size 4 T 0 ((posAt s k).1, (posAt s k).2) ∧ WPost w b s k kw (.map (some gs)) 4 (k + n0) 0 er (.returned (.tuple #[.agg #[.int .i64 4, .string T, .int .i64 0, .int .i64 (posAt s k).1, .int .i64 (posAt s k).2], .int .i64 v])) W' := by
  intro W v h1 h2 h3 hv
  subst hv
  have hb : b ≠ w.heap.size := by omega
  refine ⟨h1.set5 4 T 0 _ _, by rw [HT.out], ((((h2.other hb 0 _).other hb 1 _).other hb 2 _).other hb 3 _).other hb 4 _, ?_⟩
  exact ((((h3.setNew (Nat.le_refl _) 0 _).setNew (Nat.le_refl _) 1 _).setNew (Nat.le_refl _) 2 _).setNew (Nat.le_refl _) 3 _).setNew (Nat.le_refl _) 4 _
 have HF := Lib.hid fin
 clear fin
 have hbb : b ≠ w.heap.size + 1 := by omega
 obtain ⟨q, hq⟩ : ∃ q, (T.toList == ([] : List UInt8)) = q := ⟨_, rfl⟩
 by_cases h00 : n0 = 0
 ·have he1 : (110 : Int) = er := by have h := HER.out; rw [if_pos h00] at h; exact h
  have HE1 := Lib.hid he1
  have hT0 : T = ⟨#[]⟩ := by
   apply ByteArray.ext
   exact Array.eq_empty_of_size_eq_zero (by have h := HTS.out; rw [h00] at h; exact h)
  subst hT0
  clear he1 hq
  go_wp2
  obtain ⟨g1, g2⟩ := HF.out ((W2.setCell ⟨w.heap.size + 1, 1, none⟩ (.string ⟨#[]⟩)).setCell ⟨w.heap.size + 1, 0, none⟩ (.int .i64 4)) 110 ((hZ3.other (by omega) 1 _).other (by omega) 0 _) ((hR3.other hbb 1 _).other hbb 0 _) ((hK3.setNew (by omega) 1 _).setNew (by omega) 0 _) HE1.out
  exact end_tk g1 rfl rfl rfl rfl g2
 ·have he1 : (0 : Int) = er := by have h := HER.out; rw [if_neg h00] at h; exact h
  have HE1 := Lib.hid he1
  have hTn : (T.toList == ByteArray.toList ⟨#[]⟩) = false := by
   rw [Lib.bytes_beq_false_iff]
   intro h
   have h2 := HTS.out
   rw [h] at h2
   exact h00 h2.symm
  have hTn2 : ¬ T.toList = [] := by
   intro h
   rw [beq_eq_false_iff_ne] at hTn
   apply hTn
   rw [h, empty_list]
  have hTn3 : T.toList.isEmpty = false := by
   cases hl : T.toList with
   | nil => exact absurd hl hTn2
   | cons a l => rfl
  have hTn4 : (T.toList == []) = false := by
   cases hl : T.toList with
   | nil => exact absurd hl hTn2
   | cons a l => rfl
  clear he1 hq
  go_wp2
  obtain ⟨g1, g2⟩ := HF.out ((W2.setCell ⟨w.heap.size + 1, 1, none⟩ (.string T)).setCell ⟨w.heap.size + 1, 0, none⟩ (.int .i64 4)) 0 ((hZ3.other (by omega) 1 _).other (by omega) 0 _) ((hR3.other hbb 1 _).other hbb 0 _) ((hK3.setNew (by omega) 1 _).setNew (by omega) 0 _) HE1.out
  exact end_tk g1 rfl rfl rfl rfl g2
end Go.Proofs.YtjmlmelcppbefaaGreatDoor
namespace Go.Proofs.YtjmlmelcppbefaaGreatDoor
open Go.RowKit Go.Maps
def wKind (s : ByteArray) (k : Nat) : Int := if isLet (byte s k) then (if isKw (s.extract k (endOf isAny s k)).data.toList then 3 else 1) else if isDig (byte s k) then 2 else 4
def wEnd (s : ByteArray) (k : Nat) : Nat := if isLet (byte s k) then endOf isAny s k else if isDig (byte s k) then endOf isDig s k else k + sgnF s k (min 2 (s.size - k))
def wNum (s : ByteArray) (k : Nat) : Int := if isLet (byte s k) then 0 else if isDig (byte s k) then (if badP s k then 0 else (numP (s.extract k (endOf isDig s k)).data.toList).1) else 0
def wErr (s : ByteArray) (k : Nat) : Int :=
 if isLet (byte s k) then (if isKw (s.extract k (endOf isAny s k)).data.toList then 0 else if 16 < endOf isAny s k - k then 111 else 0)
 else if isDig (byte s k) then (if badP s k then 112 else 0) else (if sgnF s k (min 2 (s.size - k)) = 0 then 110 else 0)
theorem word_any {w : World} {b k gk gs : Nat} {s : ByteArray} (hR : Rd w b s k (.map (some gk)) (.map (some gs))) (hO : w.ownsMap Tryz.prog 9 (plainElem Tryz.prog 3) gk 20 (Lst kwL 20)) (hO2 : w.ownsMap Tryz.prog 9 (plainElem Tryz.prog 3) gs 20 (Lst sgL 20))
  (hne : gk ≠ b) (hne2 : gs ≠ b) (hk : k < s.size) (hs : s.size ≤ 4294967296) (hEr : ErrR w) (hb1 : b ≠ 7) :
  Calls Tryz.prog 112 #[.pointer (some ⟨b, 0, none⟩)] w (WPost w b s k (.map (some gk)) (.map (some gs)) (wKind s k) (wEnd s k) (wNum s k) (wErr s k)) := by
 unfold wKind wEnd wNum wErr
 cases hc : isLet (byte s k) with
 | true => exact word_let hR hO hne hk hs hc
 | false =>
  cases hd : isDig (byte s k) with
  | true => exact word_dig hR hO hne hk hs hEr hb1 hc hd
  | false => exact word_sgn hR hO2 hne2 hk hs hc hd
theorem wEnd_le {s : ByteArray} {k : Nat} (hk : k < s.size) : wEnd s k ≤ s.size := by
 unfold wEnd
 split
 ·exact (endOf_le (Nat.le_of_lt hk)).2
 ·split
  ·exact (endOf_le (Nat.le_of_lt hk)).2
  ·have h := sgnF_le s k (min 2 (s.size - k))
   omega
theorem wEnd_gt {s : ByteArray} {k : Nat} (hk : k < s.size) (h0 : wErr s k = 0) : k < wEnd s k := by
 unfold wErr at h0
 unfold wEnd
 cases hc : isLet (byte s k) with
 | true => exact endOf_lt hk (by unfold isAny; rw [hc]; rfl)
 | false =>
  cases hd : isDig (byte s k) with
  | true => exact endOf_lt hk hd
  | false =>
   rw [hc, hd] at h0
   simp only [Bool.false_eq_true, if_false] at h0 ⊢
   split at h0
   ·cases h0
   ·omega
end Go.Proofs.YtjmlmelcppbefaaGreatDoor
namespace Go.Proofs.YtjmlmelcppbefaaGreatDoor
open Go.RowKit
theorem fv_snoc (l : List UInt8) (c : UInt8) : ∀ acc, fv acc (l ++ [c]) = fv acc l * 10 + (c.toNat - 48) := by
 induction l with
 | nil => intro acc; rfl
 | cons x r ih => intro acc; exact ih _
theorem take_byte {s : ByteArray} {j : Nat} (h : j < s.size) : s.data.toList.take (j + 1) = s.data.toList.take j ++ [byte s j] := by
 have h' : j < s.data.toList.length := by rw [size_list]; exact h
 rw [List.take_add_one, List.getElem?_eq_getElem h']
 unfold byte
 rw [List.getD_eq_getElem?_getD, List.getElem?_eq_getElem h']
 rfl
theorem step_le (acc d P : Nat) (h : d ≤ 9) : (acc * 10 + d + 1) * P ≤ (acc + 1) * (P * 10) := by
 have h1 : acc * 10 + d + 1 ≤ (acc + 1) * 10 := by omega
 have h2 := Nat.mul_le_mul_right P h1
 rw [Nat.mul_comm P 10, ← Nat.mul_assoc]
 exact h2
theorem fv_lt (l : List UInt8) : (∀ c ∈ l, isDig c = true) → ∀ acc, fv acc l < (acc + 1) * 10 ^ l.length := by
 induction l with
 | nil =>
  intro _ acc
  show acc < (acc + 1) * 10 ^ 0
  rw [Nat.pow_zero, Nat.mul_one]
  exact Nat.lt_succ_self _
 | cons x r ih =>
  intro hl acc
  have hx := dig_range (hl x (List.mem_cons_self ..))
  have h := ih (fun c hc => hl c (List.mem_cons_of_mem _ hc)) (acc * 10 + (x.toNat - 48))
  have h2 := step_le acc (x.toNat - 48) (10 ^ r.length) (by omega)
  rw [List.length_cons, Nat.pow_succ]
  exact Nat.lt_of_lt_of_le h h2
def rnumP (l : List UInt8) : Int × Bool :=
 if l.all isDig = true ∧ l.length ≤ 10 then (fv 0 l, decide (fv 0 l ≤ 2147483647) && (l.length == 1 || !(l.head? == some 48))) else (0, false)
set_option maxRecDepth 100000 in
set_option maxHeartbeats 4000000 in
theorem rnumber_any (s : ByteArray) (w : World) (hs : s.size ≤ 4294967296) (hne : 0 < s.size) :
  Calls Tryz.prog 122 #[.string s] w fun e w' => e = .returned (.tuple #[.int .i64 (rnumP s.data.toList).1, .bool (rnumP s.data.toList).2]) ∧ Below w.heap.size w w' := by
 obtain ⟨R1, hR1⟩ : ∃ x, (rnumP s.data.toList).1 = x := ⟨_, rfl⟩
 obtain ⟨R2, hR2⟩ : ∃ x, (rnumP s.data.toList).2 = x := ⟨_, rfl⟩
 rw [hR1, hR2]
 have H1 := Lib.hid hR1
 have H2 := Lib.hid hR2
 clear hR1 hR2
 have hls := size_list s
 have HLS := Lib.hid hls
 clear hls
 have hb := Below.refl w.heap.size w
 go_enter Tryz.func122, Tryz.ntmps122
 go_wp2_with fail
 go_loopw [4, 5] (fun nv i wr => ∃ j : Nat, j ≤ s.size ∧ j ≤ 10 ∧ i = .int .i64 j ∧ nv = .int .i64 (fv 0 (s.data.toList.take j) : Nat) ∧ w = wr ∧ Hid (∀ c ∈ s.data.toList.take j, isDig c = true)) (fun _ i _ => s.size - (intOf i).toNat)
 case atStart => exact ⟨0, by omega, by omega, rfl, rfl, rfl, Lib.hid (fun c hc => by simp at hc)⟩
 case round =>
  obtain ⟨j, hj, hj10, rfl, rfl, rfl, HD⟩ := hrel
  have hlt := fv_lt (s.data.toList.take j) HD.out 0
  have hpw : 10 ^ (s.data.toList.take j).length ≤ 10 ^ 10 := Nat.pow_le_pow_right (by decide) (by rw [List.length_take]; omega)
  obtain ⟨v, hv⟩ : ∃ v, fv 0 (s.data.toList.take j) = v := ⟨_, rfl⟩
  rw [hv] at hlt ⊢
  have hvb : v < 10000000000 := by
   have e : (10 : Nat) ^ 10 = 10000000000 := by decide
   rw [e] at hpw
   omega
  have HV := Lib.hid hv
  clear hv hlt hpw
  by_cases hjs : j < s.size
  ·have hz : (j : Int) < (s.size : Int) := by omega
   have hbt := byte_at hjs
   obtain ⟨c, hc⟩ : ∃ c, byte s j = c := ⟨_, rfl⟩
   have HC := Lib.hid hc
   rw [hc] at hbt
   clear hc
   have c1 := rdigit_any c w
   obtain ⟨q, hq⟩ : ∃ q, isDig c = q := ⟨_, rfl⟩
   rw [hq] at c1
   have HQ := Lib.hid hq
   clear hq
   have hno : (q = false ∨ 9 < j) → R1 = 0 ∧ R2 = false := fun h => by
    have hn : ¬ (s.data.toList.all isDig = true ∧ s.data.toList.length ≤ 10) := by
     rintro ⟨ha, hl⟩
     rcases h with h | h
     ·have hm : byte s j ∈ s.data.toList := by
       have h' : j < s.data.toList.length := by rw [HLS.out]; exact hjs
       unfold byte
       rw [List.getD_eq_getElem?_getD, List.getElem?_eq_getElem h']
       exact List.getElem_mem h'
      have := List.all_eq_true.1 ha _ hm
      rw [HC.out, HQ.out, h] at this
      cases this
     ·rw [HLS.out] at hl
      omega
    rw [← H1.out, ← H2.out]
    unfold rnumP
    rw [if_neg hn]
    exact ⟨rfl, rfl⟩
   go_wp2_with fail
   refine c1.mono ?_
   rintro e w' ⟨rfl, rfl⟩
   cases q
   ·obtain ⟨rfl, rfl⟩ := hno (.inl rfl)
    clear hno
    go_wp2
    go_ret2
    exact ⟨rfl, hb⟩
   ·by_cases h9 : 9 < j
    ·obtain ⟨rfl, rfl⟩ := hno (.inr h9)
     have h9i : (9 : Int) < (j : Int) := by omega
     clear hno
     go_wp2
     go_ret2
     exact ⟨rfl, hb⟩
    ·have h9i : ¬ (9 : Int) < (j : Int) := by omega
     have hdr := dig_range HQ.out
     clear hno
     go_wp2
     go_roundw
     case rel =>
      refine ⟨j + 1, by omega, by omega, by go_num, ?_, trivial, Lib.hid ?_⟩
      ·rw [take_byte hjs, fv_snoc, HV.out, HC.out]
       have e : ((v * 10 + (c.toNat - 48) : Nat) : Int) = (v : Int) * 10 + ((c.toNat : Int) - 48) := by omega
       rw [e]
      ·rw [take_byte hjs]
       intro x hx
       rcases List.mem_append.1 hx with h | h
       ·exact HD.out x h
       ·rw [List.mem_singleton.1 h, HC.out]
        exact HQ.out
     case measure => simp [intOf]; omega
  ·have hjE : j = s.size := by omega
   have htk : s.data.toList.take j = s.data.toList := by
    rw [hjE, ← HLS.out]
    exact List.take_length
   have hvl : fv 0 s.data.toList = v := by rw [← HV.out, htk]
   have hall : s.data.toList.all isDig = true := List.all_eq_true.2 (by rw [← htk]; exact HD.out)
   have hlen : s.data.toList.length ≤ 10 := by rw [HLS.out]; omega
   have hb0 := byte_at hne
   obtain ⟨c, hc⟩ : ∃ c, byte s 0 = c := ⟨_, rfl⟩
   have hhead : s.data.toList.head? = some c := by
    rw [← hc, ← List.drop_zero (l := s.data.toList), drop_byte hne]
    rfl
   rw [hc] at hb0
   have hR1 : R1 = (v : Int) := by
    rw [← H1.out]
    unfold rnumP
    rw [if_pos ⟨hall, hlen⟩, hvl]
   have hR2 : R2 = (decide (v ≤ 2147483647) && (s.size == 1 || !(c == 48))) := by
    rw [← H2.out]
    unfold rnumP
    rw [if_pos ⟨hall, hlen⟩, hvl, HLS.out, hhead]
    rfl
   subst hR1
   have HR2 := Lib.hid hR2
   have hz : ¬ (j : Int) < (s.size : Int) := by omega
   clear htk hvl hall hlen hc hhead hR2 HV HD hjE
   by_cases hv : v ≤ 2147483647
   ·have hvi : (v : Int) ≤ 2147483647 := by omega
    by_cases h1 : s.size = 1
    ·have h1i : ((s.size : Int) == 1) = true := by rw [beq_iff_eq]; omega
     obtain rfl : R2 = true := by rw [HR2.out, decide_eq_true hv, h1]; rfl
     clear HR2 h1
     go_wp2_with fail
     go_quiet (fail)
     go_wp2
     go_ret2
     exact ⟨rfl, ⟨rfl, rfl, rfl, Nat.le_refl _, fun _ _ => rfl⟩⟩
    ·have h1i : ((s.size : Int) == 1) = false := by rw [beq_eq_false_iff_ne]; omega
     obtain ⟨q, hq⟩ : ∃ q, ((c.toNat : Int) == 48) = q := ⟨_, rfl⟩
     have hq2 : ((c.toNat : Int) != 48) = !q := by rw [← hq]; rfl
     have hz0 : (0 : Int) < (s.size : Int) := by omega
     have hR : R2 = !q := by
      rw [HR2.out, decide_eq_true hv, show (s.size == 1) = false from beq_eq_false_iff_ne.2 h1, ← hq]
      simp only [Bool.true_and, Bool.false_or]
      congr 1
      rw [Bool.eq_iff_iff, beq_iff_eq, beq_iff_eq]
      constructor
      ·intro h
       rw [h]
       rfl
      ·intro h
       have h' : c.toNat = 48 := by omega
       exact UInt8.toNat_inj.1 (by simpa using h')
     subst hR
     clear HR2 h1
     go_wp2_with fail
     go_quiet (fail)
     go_wp2
     go_ret2
     exact ⟨rfl, ⟨rfl, rfl, rfl, Nat.le_refl _, fun _ _ => rfl⟩⟩
   ·have hvi : ¬ (v : Int) ≤ 2147483647 := by omega
    have hvd : decide ((v : Int) ≤ 2147483647) = false := decide_eq_false hvi
    obtain rfl : R2 = false := by rw [HR2.out, decide_eq_false hv]; rfl
    clear HR2
    go_wp2_with fail
    go_quiet (fail)
    go_wp2
    go_ret2
    exact ⟨rfl, ⟨rfl, rfl, rfl, Nat.le_refl _, fun _ _ => rfl⟩⟩
end Go.Proofs.YtjmlmelcppbefaaGreatDoor
namespace Go.Proofs.YtjmlmelcppbefaaGreatDoor
open Go.RowKit
theorem fv_big (l : List UInt8) : ∀ acc, acc * 10 ^ l.length ≤ fv acc l := by
 induction l with
 | nil =>
  intro acc
  show acc * 10 ^ 0 ≤ acc
  rw [Nat.pow_zero, Nat.mul_one]
  exact Nat.le_refl _
 | cons x r ih =>
  intro acc
  have h := ih (acc * 10 + (x.toNat - 48))
  have h2 : acc * (10 ^ r.length * 10) ≤ (acc * 10 + (x.toNat - 48)) * 10 ^ r.length := by
   rw [Nat.mul_comm (10 ^ r.length) 10, ← Nat.mul_assoc]
   exact Nat.mul_le_mul_right _ (Nat.le_add_right _ _)
  rw [List.length_cons, Nat.pow_succ]
  exact Nat.le_trans h2 h
theorem num_same {c : UInt8} {r : List UInt8} (hl : ∀ x ∈ c :: r, isDig x = true) :
  (rnumP (c :: r)).2 = (numP (c :: r)).2 ∧ ((numP (c :: r)).2 = true → (rnumP (c :: r)).1 = (numP (c :: r)).1) := by
 have hc := dig_range (hl c (List.mem_cons_self ..))
 have hall : (c :: r).all isDig = true := List.all_eq_true.2 hl
 obtain ⟨v, hv⟩ : ∃ v, fv 0 (c :: r) = v := ⟨_, rfl⟩
 obtain ⟨n, hn⟩ : ∃ n, (c :: r).length = n := ⟨_, rfl⟩
 have hn1 : 1 ≤ n := by rw [← hn, List.length_cons]; omega
 have hbig : ¬ c = 48 → 10 < n → 2147483647 < v := fun h48 h10 => by
  have h1 : 1 ≤ c.toNat - 48 := by
   have : c.toNat ≠ 48 := fun e => h48 (UInt8.toNat_inj.1 (by simpa using e))
   omega
  have h2 : (c.toNat - 48) * 10 ^ r.length ≤ v := by
   rw [← hv]
   have := fv_big r (0 * 10 + (c.toNat - 48))
   rw [Nat.zero_mul, Nat.zero_add] at this
   show _ ≤ fv (0 * 10 + (c.toNat - 48)) r
   rw [Nat.zero_mul, Nat.zero_add]
   exact this
  have hr : 10 ≤ r.length := by rw [List.length_cons] at hn; omega
  have h3 : 10 ^ 10 ≤ 10 ^ r.length := Nat.pow_le_pow_right (by decide) hr
  have h4 : 10 ^ r.length ≤ (c.toNat - 48) * 10 ^ r.length := Nat.le_mul_of_pos_left _ h1
  have e : (10 : Nat) ^ 10 = 10000000000 := by decide
  rw [e] at h3
  have h5 := Nat.le_trans h3 (Nat.le_trans h4 h2)
  omega
 by_cases h10 : n ≤ 10
 ·unfold rnumP numP
  rw [hv, hn]
  simp only [hall, List.head?_cons, true_and]
  rw [if_pos h10]
  by_cases h48 : c = 48
  ·subst h48
   by_cases h1 : 1 < n
   ·have hne : (n == 1) = false := by rw [beq_eq_false_iff_ne]; omega
    simp [h1, hne]
   ·have hn' : n = 1 := by omega
    subst hn'
    by_cases hm : 2147483647 < v
    ·simp [hm]
    ·simp [hm]
     omega
  ·have h48' : (some c == some (48 : UInt8)) = false := by simpa using h48
   by_cases hm : 2147483647 < v
   ·simp [hm]
    intro h
    omega
   ·simp [hm, h48, h48']
    omega
 ·have hbad : (1 < n ∧ (c :: r).head? = some 48) ∨ 2147483647 < v := by
   by_cases h48 : c = 48
   ·exact .inl ⟨by omega, by rw [h48]; rfl⟩
   ·exact .inr (hbig h48 (by omega))
  have e1 : numP (c :: r) = (0, false) := if_pos (by rw [hn, hv]; exact hbad)
  have e2 : rnumP (c :: r) = (0, false) := if_neg (by rw [hn]; exact fun h => h10 h.2)
  rw [e1, e2]
  exact ⟨rfl, fun h => by cases h⟩
end Go.Proofs.YtjmlmelcppbefaaGreatDoor
