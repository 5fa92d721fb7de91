/- What the syntax texts share, part 32. No condition. -/
import Derived.Test.YtjmlmelcppbefaaGreatDoorT24
import Derived.Test.YtjmlmelcppbefaaGreatDoorT26
import Derived.Test.YtjmlmelcppbefaaGreatDoorT31
namespace Go.Proofs.YtjmlmelcppbefaaGreatDoor
open Go.RowKit Go.Maps
theorem Out.map {α β : Type} {k k' j : Nat} {R : PR α} {x : α} {bad' : Bool} (g : α → β) (h : Out false k' R x j bad') : Out false k (andT R fun x j => some (.ok (g x, j))) (g x) j bad' := by
 rcases h with ⟨h, -⟩ | ⟨-, rfl, rfl⟩ | ⟨-, rfl, rfl⟩
 ·cases h
 ·exact .inr (.inl ⟨rfl, rfl, rfl⟩)
 ·exact .inr (.inr ⟨rfl, rfl, rfl⟩)
theorem Out.anyR {α : Type} {k j : Nat} {R R' : PR α} {x : α} {bad' : Bool} (h : Out true k R x j bad') : Out true k R' x j bad' := by
 rcases h with ⟨-, h1, h2⟩ | ⟨h, -⟩ | ⟨h, -⟩
 ·exact .inl ⟨rfl, h1, h2⟩
 ·cases h
 ·cases h
theorem Out.anyK {α : Type} {k k' j : Nat} {R : PR α} {x : α} {bad' : Bool} (h : Out false k R x j bad') : Out false k' R x j bad' := by
 rcases h with ⟨h, -⟩ | h | h
 ·cases h
 ·exact .inr (.inl h)
 ·exact .inr (.inr h)
def DX (w : World) (b : Nat) (S : Src) (bad : Bool) (k : Nat) (R : PR Ex) (e : Ending) (w' : World) : Prop := Kp w w' b b ∧ ∃ (cs : List Value) (x : Ex) (j : Nat) (bad' : Bool), e = .returned (.agg cs.toArray) ∧ ExL (w.heap.size ≤ ·) w' cs x ∧ Out bad k R x j bad' ∧ Dr w' b S j bad'
def DU (b : Nat) (S : Src) (f : Nat) (bad : Bool) : Prop := ∀ (w : World) (k : Nat), Dr w b S k bad → (bad = false → pU S.T f k ≠ none) → Calls Tryz.prog 165 #[.pointer (some ⟨b, 0, none⟩)] w (DX w b S bad k (pU S.T f k))
def DP (b : Nat) (S : Src) (f : Nat) (bad : Bool) : Prop := ∀ (w : World) (k : Nat), Dr w b S k bad → (bad = false → pP S.T f k ≠ none) → Calls Tryz.prog 176 #[.pointer (some ⟨b, 0, none⟩)] w (DX w b S bad k (pP S.T f k))
def DE (b : Nat) (S : Src) (f : Nat) (bad : Bool) : Prop := ∀ (w : World) (n k : Nat), 1 ≤ n → n ≤ 6 → Dr w b S k bad → (bad = false → pE S.T f n k ≠ none) → Calls Tryz.prog 149 #[.pointer (some ⟨b, 0, none⟩), .int .i64 (n : Int)] w (DX w b S bad k (pE S.T f n k))
theorem under46 : ∃ d, Tryz.prog.underlying 46 = some d ∧ d.isRow = true := by
 have h : (Tryz.prog.underlying 46).map (·.isRow) = some true := by kernel_rfl
 obtain ⟨d, h1, h2⟩ := Option.map_eq_some_iff.1 h
 exact ⟨d, h1, h2⟩
def zEx7 : List Value := [.int .i64 0, .int .i64 0, .string ⟨#[]⟩, .int .i64 0, .bool false, .int .i64 0, .slice none 0 0]
theorem ex_told {w W : World} {b z j k : Nat} {S : Src} {bad bad' : Bool} {R : PR Ex} {x : Ex} {cs : List Value} (h0 : Dr w b S k bad) (hK : Kp w W b b) (h : Dr W b S j bad') (hz : Blk W z 46 zEx7) (hwz : w.heap.size ≤ z) (hbw : b < w.heap.size)
  (hX : ExL (fun c => w.heap.size ≤ c ∧ c ≠ z) W cs x) (hO : Out bad k R x j bad') : Blk (W.setCells z 0 cs) z 46 cs ∧ DX w b S bad k R (.returned (.agg cs.toArray)) (W.setCells z 0 cs) := by
 have hl := hX.cells.1
 have hKV := Kp.setCellsNew hwz cs 0 hK
 refine ⟨hz.putAll (by rw [hl]; rfl), hKV, cs, x, j, bad', rfl, ?_, hO, h0.fin h hKV (heap_setCells (by omega) cs 0 W)⟩
 refine ExL.weak (fun c hcc => hcc.1) (ExL.keep (fun c o v hcc hv => ?_) hX)
 rw [← hv]
 simp [World.cell?, heap_setCells (w := W) (vs := cs) (o := 0) hcc.2]
set_option maxRecDepth 100000 in
set_option maxHeartbeats 8000000 in
theorem run_step {b : Nat} {S : Src} {f : Nat} {bad : Bool} (hU : ∀ f', f = f' + 1 → DU b S f' false) (hP : DP b S (f - 1) bad) : DU b S f bad := by
 intro w k h hne
 obtain ⟨d46, hu46, hr46⟩ := under46
 have hbw := h.lt
 have HH := Lib.hid h
 have h0 := h.alloc (.cells #[.int .i64 0, .int .i64 0, .string ⟨#[]⟩, .int .i64 0, .bool false, .int .i64 0, .slice none 0 0] 46)
 have hz0 : Blk (w.alloc (.cells #[.int .i64 0, .int .i64 0, .string ⟨#[]⟩, .int .i64 0, .bool false, .int .i64 0, .slice none 0 0] 46)) w.heap.size 46 zEx7 := World.alloc_heap_new _ _
 have hk0 : Kp w (w.alloc (.cells #[.int .i64 0, .int .i64 0, .string ⟨#[]⟩, .int .i64 0, .bool false, .int .i64 0, .slice none 0 0] 46)) b b := (Kp.refl w b b).alloc _
 clear h
 have hzb : w.heap.size ≠ b := by omega
 go_enter Tryz.func165, Tryz.ntmps165
 go_wp2_with fail
 generalize w.alloc (.cells #[.int .i64 0, .int .i64 0, .string ⟨#[]⟩, .int .i64 0, .bool false, .int .i64 0, .slice none 0 0] 46) = W0 at *
 refine (rtake_any h0 sMinus).mono ?_
 rintro e W1 ⟨hk1, rfl, h1⟩
 have hK1 := hk0.trans hk1
 have hz1 := hz0.kp hk1 hzb hzb
 obtain ⟨m, hm⟩ : ∃ m, (!bad && isT S.T k sMinus) = m := ⟨_, rfl⟩
 rw [hm] at h1
 rw [hm]
 clear h0 hk0 hz0 hk1
 cases m
 ·simp only [Bool.false_eq_true, if_false] at h1
  go_wp2_with fail
  refine (rtake_any h1 sNot).mono ?_
  rintro e W2 ⟨hk2, rfl, h2⟩
  have hK2 := hK1.trans hk2
  have hz2 := hz1.kp hk2 hzb hzb
  obtain ⟨m2, hm2⟩ : ∃ m2, (!bad && isT S.T k sNot) = m2 := ⟨_, rfl⟩
  rw [hm2] at h2
  rw [hm2]
  clear h1 hK1 hz1 hk2
  cases m2
  ·simp only [Bool.false_eq_true, if_false] at h2
   have hR : bad = false → ∃ f', f = f' + 1 ∧ pU S.T f k = pP S.T f' k := fun hb => by
    subst hb
    simp only [Bool.not_false, Bool.true_and] at hm hm2
    cases f with
    | zero => exact absurd (pU_zero S.T k) (hne rfl)
    | succ f' =>
     refine ⟨f', rfl, ?_⟩
     rw [pU, hm, hm2]
     simp
   have hRO : ∀ x j bad', Out bad k (pP S.T (f - 1) k) x j bad' → Out bad k (pU S.T f k) x j bad' := fun x j bad' ho => by
    cases bad
    ·obtain ⟨f', rfl, h3⟩ := hR rfl
     rw [h3]
     simpa using ho
    ·exact ho.anyR
   have hne2 : bad = false → pP S.T (f - 1) k ≠ none := fun hb => by
    obtain ⟨f', rfl, h3⟩ := hR hb
    have := hne hb
    rw [h3] at this
    simpa using this
   have hcall := hP W2 k h2 hne2
   have HRO := Lib.hid hRO
   clear hm hm2 hR hRO hne2 hne hP hU
   go_wp2_with fail
   refine hcall.mono ?_
   rintro e W3 ⟨hk3, cs, x, j, bad', rfl, hX, hO, h3⟩
   have hz3 := hz2.kp hk3 hzb hzb
   have hzl := hz2.lt
   have hl := hX.cells.1
   have h1c := hX.cells.2
   have hX3 : ExL (fun c => w.heap.size ≤ c ∧ c ≠ w.heap.size) W3 cs x := ExL.weak (fun c hc => by have hc2 : W2.heap.size ≤ c := hc; exact ⟨by omega, by omega⟩) hX
   have HF := Lib.hid (ex_told HH.out (hK2.trans hk3) h3 hz3 (Nat.le_refl _) hbw hX3 (HRO.out x j bad' hO))
   have HZ := Lib.hid hz3
   clear hcall hX hX3 hz3 hz2 hk3 hK2 h2 h3 hO
   go_wp2_with ((with_reducible show wpList _ _ _ (Oper.mk none (.store 46 _ _) _ _ _ _ :: _) _ _); refine wpList_store_blk info46 rfl (.tmp 2) (.tmp 16) rfl w.heap.size cs _ rfl rfl HZ rfl hl h1c ?_)
   exact end_blk hu46 hr46 info46 HF.out.1 hl rfl rfl rfl HF.out.2
  ·have hbad : bad = false := by
    cases bad
    ·rfl
    ·cases hm2
   subst hbad
   simp only [if_true] at h2
   cases f with
   | zero => exact absurd (pU_zero S.T k) (hne rfl)
   | succ f' =>
    simp only [Bool.not_false, Bool.true_and] at hm hm2
    have hR : pU S.T (f' + 1) k = andT (pU S.T f' (k + 1)) fun x j => some (.ok (exNot x, j)) := by
     rw [pU]
     rw [hm, hm2]
     simp
    have hne2 : false = false → pU S.T f' (k + 1) ≠ none := fun _ e => hne rfl (by rw [hR, e]; rfl)
    have hcall := hU f' rfl W2 (k + 1) h2 hne2
    have HR := Lib.hid hR
    clear hm hm2 hR hne2 hne hP hU
    go_wp2_with fail
    refine hcall.mono ?_
    rintro e W3 ⟨hk3, cs, x, j, bad', rfl, hX, hO, h3⟩
    have hz3 := hz2.kp hk3 hzb hzb
    have hzl := hz2.lt
    have hs3 := hk3.size
    have hsz := hK2.size
    have hl := hX.cells.1
    have hst := fold_cells #[.int .i64 0, .int .i64 0, .string ⟨#[]⟩, .int .i64 0, .bool false, .int .i64 0, .slice none 0 0] cs (by rw [hl]; rfl)
    have hA := one_arg (w := w) hX (z := w.heap.size) hzl hs3 hsz 5 0 ⟨#[]⟩
    have hzx : Xc W3 w.heap.size (.int .i64 0) (.int .i64 0) (.string ⟨#[]⟩) (.int .i64 0) (.bool false) (.int .i64 0) (.slice none 0 0) := hz3
    have hz4 := hzx.alloc (.cells cs.toArray 46)
    have hK4 := (hK2.trans hk3).alloc (.cells cs.toArray 46)
    have hb4 : (W3.alloc (.cells cs.toArray 46)).heap[b]? = W3.heap[b]? := (World.grownBy_alloc W3 _ none).block b h3.lt (by simp)
    have hO' : Out false k (pU S.T (f' + 1) k) (exNot x) j bad' := by
     rw [HR.out]
     exact hO.map exNot
    have HE := Lib.hid (And.intro hz4 (And.intro hA (And.intro hK4 (And.intro h3 (And.intro hb4 hO')))))
    have t0 := hz4.c0
    have t1 := hz4.c1
    have t2 := hz4.c2
    have t3 := hz4.c3
    have t4 := hz4.c4
    have t5 := hz4.c5
    have t6 := hz4.c6
    have f0 := hz4.frozen 0
    have f1 := hz4.frozen 1
    have f2 := hz4.frozen 2
    have f3 := hz4.frozen 3
    have f4 := hz4.frozen 4
    have f5 := hz4.frozen 5
    have f6 := hz4.frozen 6
    clear hcall hX hz3 hz2 hk3 hK2 h2 h3 hO hO' hzx hz4 hA hK4 hb4
    go_wp2_with fail
    obtain ⟨hz4, hA, hK4, h3, hb4, hO⟩ := HE.out
    have hKV := kp_set7 hK4 (z := w.heap.size) (Nat.le_refl _)
    refine end_ex (hz4.set _ _ _ _ _ _ _) rfl rfl rfl ⟨hKV _ _ _ _ _ _ _, _, _, j, bad', rfl, hA _ _ _ _ _ _ _, hO, ?_⟩
    exact HH.out.fin h3 (hKV _ _ _ _ _ _ _) ((heap_set7 (Ne.symm hzb) _ _ _ _ _ _ _).trans hb4)
 ·have hbad : bad = false := by
   cases bad
   ·rfl
   ·cases hm
  subst hbad
  simp only [if_true] at h1
  cases f with
  | zero => exact absurd (pU_zero S.T k) (hne rfl)
  | succ f' =>
   simp only [Bool.not_false, Bool.true_and] at hm
   have hR : pU S.T (f' + 1) k = andT (pU S.T f' (k + 1)) fun x j => some (.ok (exNeg x, j)) := by
    rw [pU]
    rw [hm]
    simp
   have hne2 : false = false → pU S.T f' (k + 1) ≠ none := fun _ e => hne rfl (by rw [hR, e]; rfl)
   have hcall := hU f' rfl W1 (k + 1) h1 hne2
   have HR := Lib.hid hR
   clear hm hR hne2 hne hP hU
   go_wp2_with fail
   refine hcall.mono ?_
   rintro e W3 ⟨hk3, cs, x, j, bad', rfl, hX, hO, h3⟩
   have hz3 := hz1.kp hk3 hzb hzb
   have hzl := hz1.lt
   have hs3 := hk3.size
   have hsz := hK1.size
   have hl := hX.cells.1
   have hst := fold_cells #[.int .i64 0, .int .i64 0, .string ⟨#[]⟩, .int .i64 0, .bool false, .int .i64 0, .slice none 0 0] cs (by rw [hl]; rfl)
   have hA := one_arg (w := w) hX (z := w.heap.size) hzl hs3 hsz 4 0 ⟨#[]⟩
   have hzx : Xc W3 w.heap.size (.int .i64 0) (.int .i64 0) (.string ⟨#[]⟩) (.int .i64 0) (.bool false) (.int .i64 0) (.slice none 0 0) := hz3
   have hz4 := hzx.alloc (.cells cs.toArray 46)
   have hK4 := (hK1.trans hk3).alloc (.cells cs.toArray 46)
   have hb4 : (W3.alloc (.cells cs.toArray 46)).heap[b]? = W3.heap[b]? := (World.grownBy_alloc W3 _ none).block b h3.lt (by simp)
   have hO' : Out false k (pU S.T (f' + 1) k) (exNeg x) j bad' := by
    rw [HR.out]
    exact hO.map exNeg
   have HE := Lib.hid (And.intro hz4 (And.intro hA (And.intro hK4 (And.intro h3 (And.intro hb4 hO')))))
   have t0 := hz4.c0
   have t1 := hz4.c1
   have t2 := hz4.c2
   have t3 := hz4.c3
   have t4 := hz4.c4
   have t5 := hz4.c5
   have t6 := hz4.c6
   have f0 := hz4.frozen 0
   have f1 := hz4.frozen 1
   have f2 := hz4.frozen 2
   have f3 := hz4.frozen 3
   have f4 := hz4.frozen 4
   have f5 := hz4.frozen 5
   have f6 := hz4.frozen 6
   clear hcall hX hz3 hz1 hk3 hK1 h1 h3 hO hO' hzx hz4 hA hK4 hb4
   go_wp2_with fail
   obtain ⟨hz4, hA, hK4, h3, hb4, hO⟩ := HE.out
   have hKV := kp_set7 hK4 (z := w.heap.size) (Nat.le_refl _)
   refine end_ex (hz4.set _ _ _ _ _ _ _) rfl rfl rfl ⟨hKV _ _ _ _ _ _ _, _, _, j, bad', rfl, hA _ _ _ _ _ _ _, hO, ?_⟩
   exact HH.out.fin h3 (hKV _ _ _ _ _ _ _) ((heap_set7 (Ne.symm hzb) _ _ _ _ _ _ _).trans hb4)
end Go.Proofs.YtjmlmelcppbefaaGreatDoor
namespace Go.Proofs.YtjmlmelcppbefaaGreatDoor
open Go.RowKit Go.Maps
theorem Out.ret {α β : Type} {bad bad' : Bool} {k j : Nat} {R : PR α} {u : α} (y : β) (h : Out bad k R u j bad') : Out bad k (andT R fun _ j => some (.ok (y, j))) y j bad' := h.bind (Out.pure _ _ _)
theorem dr_new {w W : World} {b k j y : Nat} {S : Src} {bad bad' : Bool} (h0 : Dr w b S k bad) (hK : Kp w W b b) (h : Dr W b S j bad') (hy : w.heap.size ≤ y) (hyb : y ≠ b) (o : Nat) (u : Value) : Dr (W.setCell ⟨y, o, none⟩ u) b S j bad' :=
 h0.fin h (hK.setNew hy o u) (Below.heap_setCell W ⟨y, o, none⟩ u b (Ne.symm hyb))
set_option maxRecDepth 100000 in
set_option maxHeartbeats 16000000 in
theorem rprim_step {b : Nat} {S : Src} {f : Nat} {bad : Bool} (hE : ∀ f', f = f' + 1 → DE b S f' false) : DP b S f bad := by
 intro w k h hne
 obtain ⟨d46, hu46, hr46⟩ := under46
 have hbw := h.lt
 have HH := Lib.hid h
 have h0 := h.alloc (.cells #[.int .i64 0, .int .i64 0, .string ⟨#[]⟩, .int .i64 0, .bool false, .int .i64 0, .slice none 0 0] 46)
 have hz0 : Blk (w.alloc (.cells #[.int .i64 0, .int .i64 0, .string ⟨#[]⟩, .int .i64 0, .bool false, .int .i64 0, .slice none 0 0] 46)) w.heap.size 46 zEx7 := World.alloc_heap_new _ _
 have hk0 : Kp w (w.alloc (.cells #[.int .i64 0, .int .i64 0, .string ⟨#[]⟩, .int .i64 0, .bool false, .int .i64 0, .slice none 0 0] 46)) b b := (Kp.refl w b b).alloc _
 clear h
 have hzb : w.heap.size ≠ b := by omega
 go_enter Tryz.func176, Tryz.ntmps176
 go_wp2_with fail
 generalize w.alloc (.cells #[.int .i64 0, .int .i64 0, .string ⟨#[]⟩, .int .i64 0, .bool false, .int .i64 0, .slice none 0 0] 46) = W0 at *
 refine (rtake_any h0 sOpen).mono ?_
 rintro e W1 ⟨hk1, rfl, h1⟩
 have hK1 := hk0.trans hk1
 have hz1 := hz0.kp hk1 hzb hzb
 obtain ⟨m, hm⟩ : ∃ m, (!bad && isT S.T k sOpen) = m := ⟨_, rfl⟩
 rw [hm] at h1
 rw [hm]
 clear h0 hk0 hz0 hk1
 cases m
 ·simp only [Bool.false_eq_true, if_false] at h1
  have hRf : bad = false → ∃ f', f = f' + 1 ∧ pP S.T f k = (if kindAt S.T k = 2 then some (.ok (exNum (S.T.getD k default).num, k + 1)) else andT (pName S.T k) fun s j => if isT S.T j sBrO = true then andT (pE S.T f' 1 (j + 1)) fun x k => andT (want S.T sBrS k) fun _ m => some (.ok (exCell s x, m)) else some (.ok (exName s, j))) := fun hb => by
   subst hb
   simp only [Bool.not_false, Bool.true_and] at hm
   cases f with
   | zero => exact absurd (pP_zero S.T k) (hne rfl)
   | succ f' =>
    refine ⟨f', rfl, ?_⟩
    rw [pP, if_neg (by rw [hm]; exact Bool.false_ne_true)]
  have HRf := Lib.hid hRf
  have HNE := Lib.hid hne
  have HEE := Lib.hid hE
  clear hRf hm hne hE
  have c0 := h1.c0
  have c1 := h1.c1
  have hmx := h1.mx
  have hle := h1.le
  by_cases hk2 : kindAt S.T k = 2
  ·have hk := kind_lt S.T (i := k) (by rw [hk2]; decide)
   have hki : (k : Int) < (S.T.length : Int) := by omega
   have hp0 : (0 : Int) ≤ (k : Int) := by omega
   obtain ⟨gb, off, hga, x0, -, -, -, -⟩ := h1.wds k hk
   have hkd : (S.T.getD k default).kind = 2 := by
    unfold kindAt at hk2
    rw [if_pos hk] at hk2
    exact hk2
   rw [hga] at c0
   rw [hkd] at x0
   have HK := Lib.hid (And.intro hk2 hkd)
   have HD := Lib.hid (fun n => And.intro (h1.drewN n) (And.intro (hz1.drewN n) (hK1.drewN n)))
   clear hk2 hkd h1 hz1 hK1 hga
   go_wp2_with fail
   go_quiet (fail)
   obtain ⟨h2, hz2, hK2⟩ := HD.out nq
   clear HD c0 c1 x0
   generalize W1.drewN nq = V at *
   go_wp2_with fail
   refine (rnumb_rd h2).mono ?_
   rintro e W3 ⟨hk3, x, j, bad', rfl, hO, h3⟩
   have hz3 : Xc W3 w.heap.size (.int .i64 0) (.int .i64 0) (.string ⟨#[]⟩) (.int .i64 0) (.bool false) (.int .i64 0) (.slice none 0 0) := hz2.kp hk3 hzb hzb
   have hK3 := hK2.trans hk3
   have hO3 : Out bad k (pP S.T f k) (exNum x) j bad' := by
    cases bad
    ·obtain ⟨f', rfl, hr⟩ := HRf.out rfl
     rw [hr, if_pos HK.out.1]
     have hn : pNumb S.T k = some (.ok ((S.T.getD k default).num, k + 1)) := by
      unfold pNumb
      rw [if_pos HK.out.1]
     rw [hn] at hO
     rcases hO with ⟨h, -⟩ | ⟨-, rfl, h⟩ | ⟨-, rfl, h⟩
     ·cases h
     ·cases h
      exact .inr (.inl ⟨rfl, rfl, rfl⟩)
     ·cases h
    ·rcases hO with ⟨-, q1, q2⟩ | ⟨h, -⟩ | ⟨h, -⟩
     ·exact .inl ⟨rfl, q1, q2⟩
     ·cases h
     ·cases h
   have HE := Lib.hid (And.intro hz3 (And.intro hK3 (And.intro h3 hO3)))
   have t0 := hz3.c0
   have t1 := hz3.c1
   have t2 := hz3.c2
   have t3 := hz3.c3
   have t4 := hz3.c4
   have t5 := hz3.c5
   have t6 := hz3.c6
   have f0 := hz3.frozen 0
   have f1 := hz3.frozen 1
   have f2 := hz3.frozen 2
   have f3 := hz3.frozen 3
   have f4 := hz3.frozen 4
   have f5 := hz3.frozen 5
   have f6 := hz3.frozen 6
   clear hz2 hK2 h2 hk3 hz3 hK3 h3 hO3 hO
   go_wp2_with fail
   obtain ⟨hz4, hK4, h4, hO⟩ := HE.out
   have hKV := kp_set7 hK4 (z := w.heap.size) (Nat.le_refl _)
   refine end_ex (hz4.set _ _ _ _ _ _ _) rfl rfl rfl ⟨hKV _ _ _ _ _ _ _, _, _, j, bad', rfl, no_arg _ 1 x ⟨#[]⟩, hO, ?_⟩
   exact HH.out.fin h4 (hKV _ _ _ _ _ _ _) (heap_set7 (Ne.symm hzb) _ _ _ _ _ _ _)
  ·have HD := Lib.hid (fun n => And.intro (h1.drewN n) (And.intro (hz1.drewN n) (hK1.drewN n)))
   have hst : ∃ V : World, (Dr V b S k bad ∧ Blk V w.heap.size 46 zEx7 ∧ Kp w V b b) → True := ⟨W1, fun _ => trivial⟩
   clear hst
   by_cases hk : k < S.T.length
   ·have hki : (k : Int) < (S.T.length : Int) := by omega
    have hp0 : (0 : Int) ≤ (k : Int) := by omega
    obtain ⟨gb, off, hga, x0, -, -, -, -⟩ := h1.wds k hk
    obtain ⟨kd, hkd⟩ : ∃ kd, (S.T.getD k default).kind = kd := ⟨_, rfl⟩
    have hkn : (kd == 2) = false := by
     unfold kindAt at hk2
     rw [if_pos hk, hkd] at hk2
     simpa using hk2
    rw [hga] at c0
    rw [hkd] at x0
    have HK := Lib.hid hk2
    clear hk2 hkd h1 hz1 hK1 hga
    go_wp2_with fail
    go_quiet (fail)
    obtain ⟨h2, hz2, hK2⟩ := HD.out nq
    clear HD c0 c1 x0
    generalize W1.drewN nq = V at *
    go_wp2_with fail
    refine (rname_rd h2).mono ?_
    rintro e W3 ⟨hk3, x, j, bad', rfl, hO, h3⟩
    have hz3 := hz2.kp hk3 hzb hzb
    have hK3 := hK2.trans hk3
    have hs3 := hk3.size
    have hzl := hz2.lt
    have hy4 : Blk (W3.alloc (.cells #[.int .i64 2, .int .i64 0, .string x, .int .i64 0, .bool false, .int .i64 0, .slice none 0 0] 46)) W3.heap.size 46 [.int .i64 2, .int .i64 0, .string x, .int .i64 0, .bool false, .int .i64 0, .slice none 0 0] := World.alloc_heap_new _ _
    have hz4 := hz3.alloc (.cells #[.int .i64 2, .int .i64 0, .string x, .int .i64 0, .bool false, .int .i64 0, .slice none 0 0] 46)
    have hK4 := hK3.alloc (.cells #[.int .i64 2, .int .i64 0, .string x, .int .i64 0, .bool false, .int .i64 0, .slice none 0 0] 46)
    have h4 := h3.alloc (.cells #[.int .i64 2, .int .i64 0, .string x, .int .i64 0, .bool false, .int .i64 0, .slice none 0 0] 46)
    have hs4 : (W3.alloc (.cells #[.int .i64 2, .int .i64 0, .string x, .int .i64 0, .bool false, .int .i64 0, .slice none 0 0] 46)).heap.size = W3.heap.size + 1 := by simp
    have HE := Lib.hid (And.intro hy4 (And.intro hz4 (And.intro hK4 (And.intro h4 hs4))))
    clear hy4 hz4 hK4 h4 hs4 hz3 hK3 h3 hk3 hz2 hK2 h2
    go_wp2_with fail
    obtain ⟨hy4, hz4, hK4, h4, hs4⟩ := HE.out
    clear HE
    obtain ⟨y, hy⟩ : ∃ y, W3.heap.size = y := ⟨_, rfl⟩
    rw [hy] at hy4 hs3 hs4 ⊢
    generalize W3.alloc (.cells #[.int .i64 2, .int .i64 0, .string x, .int .i64 0, .bool false, .int .i64 0, .slice none 0 0] 46) = W4 at *
    have hyb : y ≠ b := by omega
    have hyz : y ≠ w.heap.size := by omega
    have hyw : w.heap.size ≤ y := by omega
    refine (rtake_any h4 sBrO).mono ?_
    rintro e W5 ⟨hk5, rfl, h5⟩
    have hz5 := hz4.kp hk5 hzb hzb
    have hy5 := hy4.kp hk5 hyb hyb
    have hK5 := hK4.trans hk5
    have hs5 := hk5.size
    obtain ⟨m2, hm2⟩ : ∃ m2, (!bad' && isT S.T j sBrO) = m2 := ⟨_, rfl⟩
    rw [hm2] at h5
    rw [hm2]
    clear h4 hz4 hy4 hK4 hk5
    cases m2
    ·simp only [Bool.false_eq_true, if_false] at h5
     have hO5 : Out bad k (pP S.T f k) (exName x) j bad' := by
      cases bad
      ·obtain ⟨f', rfl, hr⟩ := HRf.out rfl
       rw [hr, if_neg HK.out]
       refine hO.bind (R2 := fun s j => if isT S.T j sBrO = true then andT (pE S.T f' 1 (j + 1)) fun x k => andT (want S.T sBrS k) fun _ m => some (.ok (exCell s x, m)) else some (.ok (exName s, j))) ?_
       cases bad'
       ·simp only [Bool.not_false, Bool.true_and] at hm2
        rw [if_neg (by rw [hm2]; exact Bool.false_ne_true)]
        exact Out.pure _ _ _
       ·exact .inl ⟨rfl, rfl, rfl⟩
      ·rcases hO with ⟨-, q1, q2⟩ | ⟨h, -⟩ | ⟨h, -⟩
       ·exact .inl ⟨rfl, q1, q2⟩
       ·cases h
       ·cases h
     have hXe : ExL (fun c => w.heap.size ≤ c ∧ c ≠ w.heap.size) W5 [.int .i64 2, .int .i64 0, .string x, .int .i64 0, .bool false, .int .i64 0, .slice none 0 0] (exName x) := no_arg _ 2 0 x
     have hF := ex_told HH.out hK5 h5 hz5 (Nat.le_refl _) hbw hXe hO5
     have hl := hXe.cells.1
     have h1c := hXe.cells.2
     obtain ⟨cs, hcs⟩ : ∃ cs : List Value, [.int .i64 2, .int .i64 0, .string x, .int .i64 0, .bool false, .int .i64 0, .slice none 0 0] = cs := ⟨_, rfl⟩
     rw [hcs] at hF hl h1c hy5
     have HF := Lib.hid hF
     have HZ := Lib.hid hz5
     have HCB := Lib.hid hy5
     clear hcs hXe hF hz5 hy5 hK5 h5 hO5 hO hm2
     go_wp2_with (first | ((with_reducible show wpList _ _ _ (Oper.mk _ (.load 46 _) _ _ _ _ :: _) _ _); refine wpList_load_blk hu46 hr46 info46 rfl (.tmp 4) rfl y cs rfl HCB hl ?_) | ((with_reducible show wpList _ _ _ (Oper.mk none (.store 46 _ _) _ _ _ _ :: _) _ _); refine wpList_store_blk info46 rfl (.tmp 2) (.tmp 51) rfl w.heap.size cs _ rfl rfl HZ rfl hl h1c ?_))
     exact end_blk hu46 hr46 info46 HF.out.1 hl rfl rfl rfl HF.out.2
    ·have hb' : bad' = false := by
      cases bad'
      ·rfl
      ·cases hm2
     subst hb'
     simp only [Bool.not_false, Bool.true_and] at hm2
     simp only [if_true] at h5
     have hbf : bad = false ∧ pName S.T k = some (.ok (x, j)) := by
      rcases hO with ⟨-, h, -⟩ | ⟨q1, -, q2⟩ | ⟨-, h, -⟩
      ·cases h
      ·exact ⟨q1, q2⟩
      ·cases h
     obtain ⟨hbf, hpn⟩ := hbf
     subst hbf
     obtain ⟨f', rfl, hr⟩ := HRf.out rfl
     rw [if_neg HK.out, hpn, andT_ok, if_pos hm2] at hr
     have hne2 : false = false → pE S.T f' 1 (j + 1) ≠ none := fun _ e => HNE.out rfl (by rw [hr, e]; rfl)
     have hy6 := hy5.set1 0 (.int .i64 3)
     have hz6 := hz5.other (Ne.symm hyz) 0 (.int .i64 3)
     have h6 := dr_new HH.out hK5 h5 hyw hyb 0 (.int .i64 3)
     have hK6 := hK5.setNew hyw 0 (.int .i64 3)
     have y0 := hy5.cell 0
     have yf := hy5.frozen 0
     have hcall := HEE.out f' rfl _ 1 (j + 1) (by decide) (by decide) h6 hne2
     have HR := Lib.hid hr
     have hs6 : (W5.setCell ⟨y, 0, none⟩ (.int .i64 3)).heap.size = W5.heap.size := by simp [World.setCell]
     have HE := Lib.hid (And.intro hy6 (And.intro hz6 (And.intro hK6 hs6)))
     clear hy6 hz6 h6 hK6 hy5 hz5 h5 hK5 hr hpn hne2 hm2 hO HRf HNE HEE hs6
     go_wp2_with fail
     obtain ⟨hy6, hz6, hK6, hs6⟩ := HE.out
     clear HE y0 yf
     change Blk _ y 46 [.int .i64 3, .int .i64 0, .string x, .int .i64 0, .bool false, .int .i64 0, .slice none 0 0] at hy6
     generalize W5.setCell ⟨y, 0, none⟩ (.int .i64 3) = W6 at *
     refine hcall.mono ?_
     rintro e W7 ⟨hk7, cs, xe, j2, bad2, rfl, hX, hO2, h7⟩
     have hs7 := hk7.size
     have hl0 := hX.cells.1
     have hst := fold_cells #[.int .i64 0, .int .i64 0, .string ⟨#[]⟩, .int .i64 0, .bool false, .int .i64 0, .slice none 0 0] cs (by rw [hl0]; rfl)
     have hA := one_arg0 hX hs7 3 0 x
     have hz8 := (hz6.kp hk7 hzb hzb).alloc (.cells cs.toArray 46)
     have hy8 := (hy6.kp hk7 hyb hyb).alloc (.cells cs.toArray 46)
     have hK8 := (hK6.trans hk7).alloc (.cells cs.toArray 46)
     have h8 := h7.alloc (.cells cs.toArray 46)
     have hyl6 := hy6.lt
     have hzl6 := hz6.lt
     have hA9 := ex_set hA hyl6 6 (.slice (some ⟨W7.heap.size, 0, none⟩) 1 1)
     have hz9 := hz8.other (Ne.symm hyz) 6 (.slice (some ⟨W7.heap.size, 0, none⟩) 1 1)
     have hy9 := hy8.set1 6 (.slice (some ⟨W7.heap.size, 0, none⟩) 1 1)
     have h9 := dr_new HH.out hK8 h8 hyw hyb 6 (.slice (some ⟨W7.heap.size, 0, none⟩) 1 1)
     have hK9 := hK8.setNew hyw 6 (.slice (some ⟨W7.heap.size, 0, none⟩) 1 1)
     have y6 := hy8.cell 6
     have yf := hy8.frozen 6
     have HE := Lib.hid (And.intro hA9 (And.intro hz9 (And.intro hy9 (And.intro h9 hK9))))
     clear hA9 hz9 hy9 h9 hK9 hA hz8 hy8 hK8 h8 hz6 hy6 hK6 hk7 h7 hX hcall
     go_wp2_with fail
     obtain ⟨hA9, hz9, hy9, h9, hK9⟩ := HE.out
     clear HE y6 yf hst
     obtain ⟨q7, hq7⟩ : ∃ q7, W7.heap.size = q7 := ⟨_, rfl⟩
     rw [hq7] at hA9 hz9 hy9 h9 hK9 hs7 ⊢
     change Blk _ y 46 [.int .i64 3, .int .i64 0, .string x, .int .i64 0, .bool false, .int .i64 0, .slice (some ⟨q7, 0, none⟩) 1 1] at hy9
     generalize (W7.alloc (.cells cs.toArray 46)).setCell ⟨y, 6, none⟩ (.slice (some ⟨q7, 0, none⟩) 1 1) = W9 at *
     refine (rmust_any h9 sBrS).mono ?_
     rintro e W10 ⟨hk10, rfl, j3, bad3, hO3, h10⟩
     have hz10 := hz9.kp hk10 hzb hzb
     have hy10 := hy9.kp hk10 hyb hyb
     have hX10 : ExL (fun c => w.heap.size ≤ c ∧ c ≠ w.heap.size) W10 [.int .i64 3, .int .i64 0, .string x, .int .i64 0, .bool false, .int .i64 0, .slice (some ⟨q7, 0, none⟩) 1 1] (exCell x xe) := ExL.weak (fun c hc => by have hc2 : W6.heap.size ≤ c := hc; exact ⟨by omega, by omega⟩) (ExL.keep (fun c o v hc hv => by
      have hc2 : W6.heap.size ≤ c := hc
      rw [← hv]
      simp only [World.cell?]
      rw [hk10.block c (World.block_lt_of_cell? W9 _ hv) (by omega) (by omega)]) hA9)
     have hO10 : Out false k (pP S.T (f' + 1) k) (exCell x xe) j3 bad3 := by
      rw [HR.out]
      exact (hO2.bind (R2 := fun xe j => andT (want S.T sBrS j) fun _ m => some (.ok (exCell x xe, m))) (hO3.ret (exCell x xe))).anyK
     have hF := ex_told HH.out (hK9.trans hk10) h10 hz10 (Nat.le_refl _) hbw hX10 hO10
     have hl := hX10.cells.1
     have h1c := hX10.cells.2
     obtain ⟨cz, hcz⟩ : ∃ cz : List Value, [.int .i64 3, .int .i64 0, .string x, .int .i64 0, .bool false, .int .i64 0, .slice (some ⟨q7, 0, none⟩) 1 1] = cz := ⟨_, rfl⟩
     rw [hcz] at hF hl h1c hy10
     have HF := Lib.hid hF
     have HZ := Lib.hid hz10
     have HCB := Lib.hid hy10
     clear hcz hX10 hF hz10 hy10 hK9 h10 hO10 hO2 hO3 hk10 hA9 hz9 hy9 h9
     go_wp2_with (first | ((with_reducible show wpList _ _ _ (Oper.mk _ (.load 46 _) _ _ _ _ :: _) _ _); refine wpList_load_blk hu46 hr46 info46 rfl (.tmp 4) rfl y cz rfl HCB hl ?_) | ((with_reducible show wpList _ _ _ (Oper.mk none (.store 46 _ _) _ _ _ _ :: _) _ _); refine wpList_store_blk info46 rfl (.tmp 2) (.tmp 51) rfl w.heap.size cz _ rfl rfl HZ rfl hl h1c ?_))
     exact end_blk hu46 hr46 info46 HF.out.1 hl rfl rfl rfl HF.out.2
   ·have hki : ¬ (k : Int) < (S.T.length : Int) := by omega
    have HK := Lib.hid hk2
    clear hk2 h1 hz1 hK1
    go_wp2_with fail
    go_quiet (fail)
    obtain ⟨h2, hz2, hK2⟩ := HD.out nq
    clear HD c0 c1
    generalize W1.drewN nq = V at *
    go_wp2_with fail
    refine (rname_rd h2).mono ?_
    rintro e W3 ⟨hk3, x, j, bad', rfl, hO, h3⟩
    have hz3 := hz2.kp hk3 hzb hzb
    have hK3 := hK2.trans hk3
    have hs3 := hk3.size
    have hzl := hz2.lt
    have hy4 : Blk (W3.alloc (.cells #[.int .i64 2, .int .i64 0, .string x, .int .i64 0, .bool false, .int .i64 0, .slice none 0 0] 46)) W3.heap.size 46 [.int .i64 2, .int .i64 0, .string x, .int .i64 0, .bool false, .int .i64 0, .slice none 0 0] := World.alloc_heap_new _ _
    have hz4 := hz3.alloc (.cells #[.int .i64 2, .int .i64 0, .string x, .int .i64 0, .bool false, .int .i64 0, .slice none 0 0] 46)
    have hK4 := hK3.alloc (.cells #[.int .i64 2, .int .i64 0, .string x, .int .i64 0, .bool false, .int .i64 0, .slice none 0 0] 46)
    have h4 := h3.alloc (.cells #[.int .i64 2, .int .i64 0, .string x, .int .i64 0, .bool false, .int .i64 0, .slice none 0 0] 46)
    have hs4 : (W3.alloc (.cells #[.int .i64 2, .int .i64 0, .string x, .int .i64 0, .bool false, .int .i64 0, .slice none 0 0] 46)).heap.size = W3.heap.size + 1 := by simp
    have HE := Lib.hid (And.intro hy4 (And.intro hz4 (And.intro hK4 (And.intro h4 hs4))))
    clear hy4 hz4 hK4 h4 hs4 hz3 hK3 h3 hk3 hz2 hK2 h2
    go_wp2_with fail
    obtain ⟨hy4, hz4, hK4, h4, hs4⟩ := HE.out
    clear HE
    obtain ⟨y, hy⟩ : ∃ y, W3.heap.size = y := ⟨_, rfl⟩
    rw [hy] at hy4 hs3 hs4 ⊢
    generalize W3.alloc (.cells #[.int .i64 2, .int .i64 0, .string x, .int .i64 0, .bool false, .int .i64 0, .slice none 0 0] 46) = W4 at *
    have hyb : y ≠ b := by omega
    have hyz : y ≠ w.heap.size := by omega
    have hyw : w.heap.size ≤ y := by omega
    refine (rtake_any h4 sBrO).mono ?_
    rintro e W5 ⟨hk5, rfl, h5⟩
    have hz5 := hz4.kp hk5 hzb hzb
    have hy5 := hy4.kp hk5 hyb hyb
    have hK5 := hK4.trans hk5
    have hs5 := hk5.size
    obtain ⟨m2, hm2⟩ : ∃ m2, (!bad' && isT S.T j sBrO) = m2 := ⟨_, rfl⟩
    rw [hm2] at h5
    rw [hm2]
    clear h4 hz4 hy4 hK4 hk5
    cases m2
    ·simp only [Bool.false_eq_true, if_false] at h5
     have hO5 : Out bad k (pP S.T f k) (exName x) j bad' := by
      cases bad
      ·obtain ⟨f', rfl, hr⟩ := HRf.out rfl
       rw [hr, if_neg HK.out]
       refine hO.bind (R2 := fun s j => if isT S.T j sBrO = true then andT (pE S.T f' 1 (j + 1)) fun x k => andT (want S.T sBrS k) fun _ m => some (.ok (exCell s x, m)) else some (.ok (exName s, j))) ?_
       cases bad'
       ·simp only [Bool.not_false, Bool.true_and] at hm2
        rw [if_neg (by rw [hm2]; exact Bool.false_ne_true)]
        exact Out.pure _ _ _
       ·exact .inl ⟨rfl, rfl, rfl⟩
      ·rcases hO with ⟨-, q1, q2⟩ | ⟨h, -⟩ | ⟨h, -⟩
       ·exact .inl ⟨rfl, q1, q2⟩
       ·cases h
       ·cases h
     have hXe : ExL (fun c => w.heap.size ≤ c ∧ c ≠ w.heap.size) W5 [.int .i64 2, .int .i64 0, .string x, .int .i64 0, .bool false, .int .i64 0, .slice none 0 0] (exName x) := no_arg _ 2 0 x
     have hF := ex_told HH.out hK5 h5 hz5 (Nat.le_refl _) hbw hXe hO5
     have hl := hXe.cells.1
     have h1c := hXe.cells.2
     obtain ⟨cs, hcs⟩ : ∃ cs : List Value, [.int .i64 2, .int .i64 0, .string x, .int .i64 0, .bool false, .int .i64 0, .slice none 0 0] = cs := ⟨_, rfl⟩
     rw [hcs] at hF hl h1c hy5
     have HF := Lib.hid hF
     have HZ := Lib.hid hz5
     have HCB := Lib.hid hy5
     clear hcs hXe hF hz5 hy5 hK5 h5 hO5 hO hm2
     go_wp2_with (first | ((with_reducible show wpList _ _ _ (Oper.mk _ (.load 46 _) _ _ _ _ :: _) _ _); refine wpList_load_blk hu46 hr46 info46 rfl (.tmp 4) rfl y cs rfl HCB hl ?_) | ((with_reducible show wpList _ _ _ (Oper.mk none (.store 46 _ _) _ _ _ _ :: _) _ _); refine wpList_store_blk info46 rfl (.tmp 2) (.tmp 51) rfl w.heap.size cs _ rfl rfl HZ rfl hl h1c ?_))
     exact end_blk hu46 hr46 info46 HF.out.1 hl rfl rfl rfl HF.out.2
    ·have hb' : bad' = false := by
      cases bad'
      ·rfl
      ·cases hm2
     subst hb'
     simp only [Bool.not_false, Bool.true_and] at hm2
     simp only [if_true] at h5
     have hbf : bad = false ∧ pName S.T k = some (.ok (x, j)) := by
      rcases hO with ⟨-, h, -⟩ | ⟨q1, -, q2⟩ | ⟨-, h, -⟩
      ·cases h
      ·exact ⟨q1, q2⟩
      ·cases h
     obtain ⟨hbf, hpn⟩ := hbf
     subst hbf
     obtain ⟨f', rfl, hr⟩ := HRf.out rfl
     rw [if_neg HK.out, hpn, andT_ok, if_pos hm2] at hr
     have hne2 : false = false → pE S.T f' 1 (j + 1) ≠ none := fun _ e => HNE.out rfl (by rw [hr, e]; rfl)
     have hy6 := hy5.set1 0 (.int .i64 3)
     have hz6 := hz5.other (Ne.symm hyz) 0 (.int .i64 3)
     have h6 := dr_new HH.out hK5 h5 hyw hyb 0 (.int .i64 3)
     have hK6 := hK5.setNew hyw 0 (.int .i64 3)
     have y0 := hy5.cell 0
     have yf := hy5.frozen 0
     have hcall := HEE.out f' rfl _ 1 (j + 1) (by decide) (by decide) h6 hne2
     have HR := Lib.hid hr
     have hs6 : (W5.setCell ⟨y, 0, none⟩ (.int .i64 3)).heap.size = W5.heap.size := by simp [World.setCell]
     have HE := Lib.hid (And.intro hy6 (And.intro hz6 (And.intro hK6 hs6)))
     clear hy6 hz6 h6 hK6 hy5 hz5 h5 hK5 hr hpn hne2 hm2 hO HRf HNE HEE hs6
     go_wp2_with fail
     obtain ⟨hy6, hz6, hK6, hs6⟩ := HE.out
     clear HE y0 yf
     change Blk _ y 46 [.int .i64 3, .int .i64 0, .string x, .int .i64 0, .bool false, .int .i64 0, .slice none 0 0] at hy6
     generalize W5.setCell ⟨y, 0, none⟩ (.int .i64 3) = W6 at *
     refine hcall.mono ?_
     rintro e W7 ⟨hk7, cs, xe, j2, bad2, rfl, hX, hO2, h7⟩
     have hs7 := hk7.size
     have hl0 := hX.cells.1
     have hst := fold_cells #[.int .i64 0, .int .i64 0, .string ⟨#[]⟩, .int .i64 0, .bool false, .int .i64 0, .slice none 0 0] cs (by rw [hl0]; rfl)
     have hA := one_arg0 hX hs7 3 0 x
     have hz8 := (hz6.kp hk7 hzb hzb).alloc (.cells cs.toArray 46)
     have hy8 := (hy6.kp hk7 hyb hyb).alloc (.cells cs.toArray 46)
     have hK8 := (hK6.trans hk7).alloc (.cells cs.toArray 46)
     have h8 := h7.alloc (.cells cs.toArray 46)
     have hyl6 := hy6.lt
     have hzl6 := hz6.lt
     have hA9 := ex_set hA hyl6 6 (.slice (some ⟨W7.heap.size, 0, none⟩) 1 1)
     have hz9 := hz8.other (Ne.symm hyz) 6 (.slice (some ⟨W7.heap.size, 0, none⟩) 1 1)
     have hy9 := hy8.set1 6 (.slice (some ⟨W7.heap.size, 0, none⟩) 1 1)
     have h9 := dr_new HH.out hK8 h8 hyw hyb 6 (.slice (some ⟨W7.heap.size, 0, none⟩) 1 1)
     have hK9 := hK8.setNew hyw 6 (.slice (some ⟨W7.heap.size, 0, none⟩) 1 1)
     have y6 := hy8.cell 6
     have yf := hy8.frozen 6
     have HE := Lib.hid (And.intro hA9 (And.intro hz9 (And.intro hy9 (And.intro h9 hK9))))
     clear hA9 hz9 hy9 h9 hK9 hA hz8 hy8 hK8 h8 hz6 hy6 hK6 hk7 h7 hX hcall
     go_wp2_with fail
     obtain ⟨hA9, hz9, hy9, h9, hK9⟩ := HE.out
     clear HE y6 yf hst
     obtain ⟨q7, hq7⟩ : ∃ q7, W7.heap.size = q7 := ⟨_, rfl⟩
     rw [hq7] at hA9 hz9 hy9 h9 hK9 hs7 ⊢
     change Blk _ y 46 [.int .i64 3, .int .i64 0, .string x, .int .i64 0, .bool false, .int .i64 0, .slice (some ⟨q7, 0, none⟩) 1 1] at hy9
     generalize (W7.alloc (.cells cs.toArray 46)).setCell ⟨y, 6, none⟩ (.slice (some ⟨q7, 0, none⟩) 1 1) = W9 at *
     refine (rmust_any h9 sBrS).mono ?_
     rintro e W10 ⟨hk10, rfl, j3, bad3, hO3, h10⟩
     have hz10 := hz9.kp hk10 hzb hzb
     have hy10 := hy9.kp hk10 hyb hyb
     have hX10 : ExL (fun c => w.heap.size ≤ c ∧ c ≠ w.heap.size) W10 [.int .i64 3, .int .i64 0, .string x, .int .i64 0, .bool false, .int .i64 0, .slice (some ⟨q7, 0, none⟩) 1 1] (exCell x xe) := ExL.weak (fun c hc => by have hc2 : W6.heap.size ≤ c := hc; exact ⟨by omega, by omega⟩) (ExL.keep (fun c o v hc hv => by
      have hc2 : W6.heap.size ≤ c := hc
      rw [← hv]
      simp only [World.cell?]
      rw [hk10.block c (World.block_lt_of_cell? W9 _ hv) (by omega) (by omega)]) hA9)
     have hO10 : Out false k (pP S.T (f' + 1) k) (exCell x xe) j3 bad3 := by
      rw [HR.out]
      exact (hO2.bind (R2 := fun xe j => andT (want S.T sBrS j) fun _ m => some (.ok (exCell x xe, m))) (hO3.ret (exCell x xe))).anyK
     have hF := ex_told HH.out (hK9.trans hk10) h10 hz10 (Nat.le_refl _) hbw hX10 hO10
     have hl := hX10.cells.1
     have h1c := hX10.cells.2
     obtain ⟨cz, hcz⟩ : ∃ cz : List Value, [.int .i64 3, .int .i64 0, .string x, .int .i64 0, .bool false, .int .i64 0, .slice (some ⟨q7, 0, none⟩) 1 1] = cz := ⟨_, rfl⟩
     rw [hcz] at hF hl h1c hy10
     have HF := Lib.hid hF
     have HZ := Lib.hid hz10
     have HCB := Lib.hid hy10
     clear hcz hX10 hF hz10 hy10 hK9 h10 hO10 hO2 hO3 hk10 hA9 hz9 hy9 h9
     go_wp2_with (first | ((with_reducible show wpList _ _ _ (Oper.mk _ (.load 46 _) _ _ _ _ :: _) _ _); refine wpList_load_blk hu46 hr46 info46 rfl (.tmp 4) rfl y cz rfl HCB hl ?_) | ((with_reducible show wpList _ _ _ (Oper.mk none (.store 46 _ _) _ _ _ _ :: _) _ _); refine wpList_store_blk info46 rfl (.tmp 2) (.tmp 51) rfl w.heap.size cz _ rfl rfl HZ rfl hl h1c ?_))
     exact end_blk hu46 hr46 info46 HF.out.1 hl rfl rfl rfl HF.out.2
 ·have hbad : bad = false := by
   cases bad
   ·rfl
   ·cases hm
  subst hbad
  simp only [if_true] at h1
  cases f with
  | zero => exact absurd (pP_zero S.T k) (hne rfl)
  | succ f' =>
   simp only [Bool.not_false, Bool.true_and] at hm
   have hR : pP S.T (f' + 1) k = andT (pE S.T f' 1 (k + 1)) fun x j => andT (want S.T sShut j) fun _ k => some (.ok (x, k)) := by
    rw [pP, if_pos hm]
   have hne2 : false = false → pE S.T f' 1 (k + 1) ≠ none := fun _ e => hne rfl (by rw [hR, e]; rfl)
   have hcall := hE f' rfl W1 1 (k + 1) (by decide) (by decide) h1 hne2
   have HR := Lib.hid hR
   clear hm hR hne2 hne hE
   go_wp2_with fail
   refine hcall.mono ?_
   rintro e W2 ⟨hk2, cs, x, j, bad', rfl, hX, hO, h2⟩
   have hz2 := hz1.kp hk2 hzb hzb
   have hzl := hz1.lt
   have hs2 := hk2.size
   have hl := hX.cells.1
   have h1c := hX.cells.2
   have hK3 := (hK1.trans hk2).alloc (.cells cs.toArray 46)
   have hz3 := hz2.alloc (.cells cs.toArray 46)
   have h3 := h2.alloc (.cells cs.toArray 46)
   have hy3 := Blk.new W2 46 cs
   have hX3 : ExL (fun c => W1.heap.size ≤ c) (W2.alloc (.cells cs.toArray 46)) cs x := ExL.keep (fun c o v _ hv => by rw [← hv]; simp only [World.cell?]; rw [(World.grownBy_alloc W2 (.cells cs.toArray 46) none).block c (World.block_lt_of_cell? W2 _ hv) (by simp)]) hX
   have HE := Lib.hid (And.intro hK3 (And.intro hz3 (And.intro h3 (And.intro hy3 hX3))))
   clear hcall hX hz2 hz1 hk2 hK1 h1 h2 hK3 hz3 h3 hy3 hX3
   go_wp2_with ((with_reducible show wpList _ _ _ (Oper.mk none (.store 46 _ _) _ _ _ _ :: _) _ _); refine wpList_store_fresh info46 rfl (.tmp 3) (.tmp 8) rfl W2 zEx7 cs rfl rfl hl h1c _ rfl rfl rfl ?_)
   obtain ⟨hK3, hz3, h3, hy3, hX3⟩ := HE.out
   clear HE
   obtain ⟨y, hy⟩ : ∃ y, W2.heap.size = y := ⟨_, rfl⟩
   rw [hy] at hs2 hy3 ⊢
   change Blk (W2.alloc (.cells cs.toArray 46)) y 46 cs at hy3
   generalize W2.alloc (.cells cs.toArray 46) = W3 at *
   refine (rmust_any h3 sShut).mono ?_
   rintro e W4 ⟨hk4, rfl, j2, bad2, hO2, h4⟩
   have hyb : y ≠ b := by omega
   have hz4 := hz3.kp hk4 hzb hzb
   have hy4 := hy3.kp hk4 hyb hyb
   have hX4 : ExL (fun c => w.heap.size ≤ c ∧ c ≠ w.heap.size) W4 cs x := ExL.weak (fun c hc => by have hc2 : W1.heap.size ≤ c := hc; exact ⟨by omega, by omega⟩) (ExL.keep (fun c o v hc hv => by
    have hc2 : W1.heap.size ≤ c := hc
    rw [← hv]
    simp only [World.cell?]
    rw [hk4.block c (World.block_lt_of_cell? W3 _ hv) (by omega) (by omega)]) hX3)
   have hO4 : Out false k (pP S.T (f' + 1) k) x j2 bad2 := by
    rw [HR.out]
    exact (hO.bind (R2 := fun x j => andT (want S.T sShut j) fun _ k => some (.ok (x, k))) (hO2.ret x)).anyK
   have HF := Lib.hid (ex_told HH.out (hK3.trans hk4) h4 hz4 (Nat.le_refl _) hbw hX4 hO4)
   have HZ := Lib.hid hz4
   have HCB := Lib.hid hy4
   clear hz4 hy4 hX4 hO4 hk4 h4 hK3 hz3 h3 hy3 hX3 hO hO2
   go_wp2_with (first | ((with_reducible show wpList _ _ _ (Oper.mk _ (.load 46 _) _ _ _ _ :: _) _ _); refine wpList_load_blk hu46 hr46 info46 rfl (.tmp 3) rfl y cs rfl HCB hl ?_) | ((with_reducible show wpList _ _ _ (Oper.mk none (.store 46 _ _) _ _ _ _ :: _) _ _); refine wpList_store_blk info46 rfl (.tmp 2) (.tmp 11) rfl w.heap.size cs _ rfl rfl HZ rfl hl h1c ?_))
   exact end_blk hu46 hr46 info46 HF.out.1 hl rfl rfl rfl HF.out.2
end Go.Proofs.YtjmlmelcppbefaaGreatDoor
namespace Go.Proofs.YtjmlmelcppbefaaGreatDoor
open Go.RowKit Go.Maps
def DEn (b : Nat) (S : Src) (n f : Nat) (bad : Bool) : Prop := ∀ (w : World) (k : Nat), Dr w b S k bad → (bad = false → pE S.T f n k ≠ none) → Calls Tryz.prog 149 #[.pointer (some ⟨b, 0, none⟩), .int .i64 (n : Int)] w (DX w b S bad k (pE S.T f n k))
theorem pE_six (T : List Wd) (f k : Nat) (h : pE T f 6 k ≠ none) : ∃ f', f = f' + 1 ∧ pE T f 6 k = pU T f' k := by
 cases f with
 | zero => exact absurd (pE_zero T 6 k) h
 | succ f =>
  refine ⟨f, rfl, ?_⟩
  rw [pE] at h ⊢
  rcases hx : pU T f k with _ | (j | ⟨x, j⟩)
  ·rfl
  ·rfl
  ·rw [hx, andT_ok] at h
   rw [andT_ok]
   cases f with
   | zero => rw [pU_zero] at hx; cases hx
   | succ f =>
    have := rankOf_le (opAt T j)
    rw [pL, if_pos (by omega)]
set_option maxRecDepth 100000 in
set_option maxHeartbeats 4000000 in
theorem rexpr_six {b : Nat} {S : Src} {f : Nat} {bad : Bool} (hU : ∀ f', (f = f' + 1 ∨ bad = true) → (bad = true → f' = 0) → DU b S f' bad) : DEn b S 6 f bad := by
 intro w k h hne
 obtain ⟨d46, hu46, hr46⟩ := under46
 have hbw := h.lt
 have HH := Lib.hid h
 have h0 := h.alloc (.cells #[.int .i64 0, .int .i64 0, .string ⟨#[]⟩, .int .i64 0, .bool false, .int .i64 0, .slice none 0 0] 46)
 have hz0 : Blk (w.alloc (.cells #[.int .i64 0, .int .i64 0, .string ⟨#[]⟩, .int .i64 0, .bool false, .int .i64 0, .slice none 0 0] 46)) w.heap.size 46 zEx7 := World.alloc_heap_new _ _
 have hk0 : Kp w (w.alloc (.cells #[.int .i64 0, .int .i64 0, .string ⟨#[]⟩, .int .i64 0, .bool false, .int .i64 0, .slice none 0 0] 46)) b b := (Kp.refl w b b).alloc _
 clear h
 have hzb : w.heap.size ≠ b := by omega
 have hcall : Calls Tryz.prog 165 #[.pointer (some ⟨b, 0, none⟩)] (w.alloc (.cells #[.int .i64 0, .int .i64 0, .string ⟨#[]⟩, .int .i64 0, .bool false, .int .i64 0, .slice none 0 0] 46)) (DX (w.alloc (.cells #[.int .i64 0, .int .i64 0, .string ⟨#[]⟩, .int .i64 0, .bool false, .int .i64 0, .slice none 0 0] 46)) b S bad k (pE S.T f 6 k)) := by
  cases bad
  ·obtain ⟨f', rfl, h6⟩ := pE_six S.T f k (hne rfl)
   rw [h6]
   exact hU f' (Or.inl rfl) (fun e => by cases e) _ k h0 (fun _ => by rw [← h6]; exact hne rfl)
  ·refine (hU 0 (Or.inr rfl) (fun _ => rfl) _ k h0 (fun e => by cases e)).mono ?_
   rintro e w' ⟨h1, cs, x, j, bad', h2, h3, h4, h5⟩
   exact ⟨h1, cs, x, j, bad', h2, h3, h4.anyR, h5⟩
 clear hU hne
 go_enter Tryz.func149, Tryz.ntmps149
 go_wp2_with fail
 generalize w.alloc (.cells #[.int .i64 0, .int .i64 0, .string ⟨#[]⟩, .int .i64 0, .bool false, .int .i64 0, .slice none 0 0] 46) = W0 at *
 refine hcall.mono ?_
 rintro e W3 ⟨hk3, cs, x, j, bad', rfl, hX, hO, h3⟩
 have hz3 := hz0.kp hk3 hzb hzb
 have hzl := hz0.lt
 have hl := hX.cells.1
 have h1c := hX.cells.2
 have hX3 : ExL (fun c => w.heap.size ≤ c ∧ c ≠ w.heap.size) W3 cs x := ExL.weak (fun c hc => by have hc2 : W0.heap.size ≤ c := hc; exact ⟨by omega, by omega⟩) hX
 have HF := Lib.hid (ex_told HH.out (hk0.trans hk3) h3 hz3 (Nat.le_refl _) hbw hX3 hO)
 have HZ := Lib.hid hz3
 clear hcall hX hX3 hz3 hz0 hk3 hk0 h0 h3 hO
 go_wp2_with ((with_reducible show wpList _ _ _ (Oper.mk none (.store 46 _ _) _ _ _ _ :: _) _ _); refine wpList_store_blk info46 rfl (.tmp 4) (.tmp 10) rfl w.heap.size cs _ rfl rfl HZ rfl hl h1c ?_)
 exact end_blk hu46 hr46 info46 HF.out.1 hl rfl rfl rfl HF.out.2
structure Dt (w0 w : World) (b z y : Nat) (S : Src) (l : Ex) (j : Nat) (bd : Bool) : Prop where
 ex : ∃ v0 v1 v2 v3 v4 v5 v6, Xc w y v0 v1 v2 v3 v4 v5 v6 ∧ ExL (fun c => w0.heap.size ≤ c ∧ c ≠ y ∧ c ≠ z) w [v0, v1, v2, v3, v4, v5, v6] l
 zz : Xc w z (.int .i64 0) (.int .i64 0) (.string ⟨#[]⟩) (.int .i64 0) (.bool false) (.int .i64 0) (.slice none 0 0)
 rd : Dr w b S j bd
 kp : Kp w0 w b b
def Rest (T : List Wd) (bad : Bool) (k f n : Nat) (g : Nat) (l : Ex) (j : Nat) (bd : Bool) : Prop := (∀ x jf bf, Out bd j (pL T g n n l j) x jf bf → Out bad k (pE T f n k) x jf bf) ∧ (bd = false → pL T g n n l j ≠ none)
theorem Rest.stop {T : List Wd} {bad bd : Bool} {k f n g j : Nat} {l : Ex} (_hn : 1 ≤ n) (h : Rest T bad k f n g l j bd) (ho : nextOp bd T j n = 0) : Out bad k (pE T f n k) l j bd := by
 refine h.1 l j bd ?_
 cases bd
 ·have hne := h.2 rfl
  cases g with
  | zero => exact absurd (by simp [pL]) hne
  | succ g =>
   rw [pL]
   split
   ·exact Out.pure _ _ _
   ·rename_i hc
    exfalso
    unfold nextOp at ho
    have hr : rankOf (opAt T j) = n := by omega
    rw [if_pos ⟨rfl, hr⟩] at ho
    exact hc (.inl ho)
 ·exact .inl ⟨rfl, rfl, rfl⟩
theorem Rest.go {T : List Wd} {bad bd : Bool} {k f n g j o : Nat} {l : Ex} (h : Rest T bad k f n g l j bd) (ho : nextOp bd T j n = o) (h0 : o ≠ 0) :
  bd = false ∧ opAt T j = o ∧ rankOf o = n ∧ ∃ g', g = g' + 1 ∧ pE T g' (n + 1) (j + 1) ≠ none ∧ ∀ x j2 bd2, Out false (j + 1) (pE T g' (n + 1) (j + 1)) x j2 bd2 →
   (n ≠ 3 → Rest T bad k f n g' (exBin o l x) j2 bd2) ∧ (n = 3 → Out bad k (pE T f n k) (exBin o l x) j2 bd2) := by
 unfold nextOp at ho
 split at ho
 ·rename_i hc
  obtain ⟨hbd, hr⟩ := hc
  subst hbd
  rw [ho] at hr
  refine ⟨rfl, ho, hr, ?_⟩
  have hne := h.2 rfl
  cases g with
  | zero => exact absurd (by simp [pL]) hne
  | succ g =>
   have hL : pL T (g + 1) n n l j = andT (pE T g (n + 1) (j + 1)) fun x j => pL T g n (nextM n) (exBin o l x) j := by
    rw [pL, if_neg (by rw [ho]; omega), ho, hr]
   rw [hL] at hne
   refine ⟨g, rfl, fun e => hne (by rw [e]; rfl), fun x j2 bd2 hO => ⟨fun hn3 => ?_, fun hn3 => ?_⟩⟩
   ·have hnm : nextM n = n := by unfold nextM; rw [if_neg hn3]
    rw [hnm] at hL hne
    refine ⟨fun X jf bf hX => h.1 X jf bf ?_, fun hb => ?_⟩
    ·rw [hL]
     exact (hO.bind (R2 := fun x j => pL T g n n (exBin o l x) j) hX).anyK
    ·subst hb
     rcases hO with ⟨h1, -⟩ | ⟨-, -, h1⟩ | ⟨-, h1, -⟩
     ·cases h1
     ·rw [h1, andT_ok] at hne
      exact hne
     ·cases h1
   ·refine h.1 _ _ _ ?_
    rw [hL]
    refine (hO.bind (R2 := fun x j => pL T g n (nextM n) (exBin o l x) j) ?_).anyK
    subst hn3
    cases bd2
    ·rcases hO with ⟨h1, -⟩ | ⟨-, -, h1⟩ | ⟨-, h1, -⟩
     ·cases h1
     ·rw [h1, andT_ok] at hne
      cases g with
      | zero => exact absurd (by simp [pL]) hne
      | succ g =>
       have h2 : nextM 3 = 2 := rfl
       rw [h2, pL, if_pos (by omega)]
       exact Out.pure _ _ _
     ·cases h1
    ·exact .inl ⟨rfl, rfl, rfl⟩
 ·exact absurd ho.symm h0
end Go.Proofs.YtjmlmelcppbefaaGreatDoor
namespace Go.Proofs.YtjmlmelcppbefaaGreatDoor
open Go.RowKit Go.Maps
theorem Rest.start {T : List Wd} {bad : Bool} {k f n : Nat} (hn : 1 ≤ n) (h6 : n ≤ 6) (hne : bad = false → pE T f n k ≠ none) : (bad = false → pE T f (n + 1) k ≠ none) ∧ ∀ x j bd, Out bad k (pE T f (n + 1) k) x j bd → Rest T bad k f n f x j bd := by
 have hlev : bad = false → andT (pE T f (n + 1) k) (fun e j => pL T f n n e j) = pE T f n k := fun hb => by
  rcases hx : pE T f n k with _ | R
  ·exact absurd hx (hne hb)
  ·exact pE_level T hn h6 hx
 refine ⟨fun hb e => ?_, fun x j bd hO => ⟨fun X jf bf hX => ?_, fun hb => ?_⟩⟩
 ·have := hlev hb
  rw [e] at this
  exact hne hb this.symm
 ·cases bad
  ·rw [← hlev rfl]
   exact hO.bind (R2 := fun e j => pL T f n n e j) hX
  ·rcases hO with ⟨-, rfl, rfl⟩ | ⟨h, -⟩ | ⟨h, -⟩
   ·exact hX.anyR
   ·cases h
   ·cases h
 ·subst hb
  rcases hO with ⟨-, h, -⟩ | ⟨h1, -, h2⟩ | ⟨-, h, -⟩
  ·cases h
  ·subst h1
   have h3 := hlev rfl
   rw [h2, andT_ok] at h3
   rw [h3]
   exact hne rfl
  ·cases h
set_option maxRecDepth 100000 in
set_option maxHeartbeats 16000000 in
theorem rexpr_step {b : Nat} {S : Src} {n f : Nat} {bad : Bool} (hn : 1 ≤ n) (hn5 : n ≤ 5) (hE : DEn b S (n + 1) f bad) (hEg : ∀ g, g < f → DEn b S (n + 1) g false) : DEn b S n f bad := by
 intro w k h hne
 have hbw := h.lt
 have HH := Lib.hid h
 obtain ⟨hne1, hstart⟩ := Rest.start hn (by omega) hne
 have h0 := h.alloc (.cells #[.int .i64 0, .int .i64 0, .string ⟨#[]⟩, .int .i64 0, .bool false, .int .i64 0, .slice none 0 0] 46)
 have hz0 : Xc (w.alloc (.cells #[.int .i64 0, .int .i64 0, .string ⟨#[]⟩, .int .i64 0, .bool false, .int .i64 0, .slice none 0 0] 46)) w.heap.size (.int .i64 0) (.int .i64 0) (.string ⟨#[]⟩) (.int .i64 0) (.bool false) (.int .i64 0) (.slice none 0 0) := World.alloc_heap_new _ _
 have hk0 : Kp w (w.alloc (.cells #[.int .i64 0, .int .i64 0, .string ⟨#[]⟩, .int .i64 0, .bool false, .int .i64 0, .slice none 0 0] 46)) b b := (Kp.refl w b b).alloc _
 have hcall := hE _ k h0 hne1
 have hcast : (((n + 1 : Nat)) : Int) = (n : Int) + 1 := by omega
 rw [hcast] at hcall
 have hn5' : ¬ (5 : Int) < (n : Int) := by omega
 have hn0' : (0 : Int) ≤ (n : Int) := by omega
 have HS := Lib.hid hstart
 clear h hcast hne hne1 hE hstart
 go_enter Tryz.func149, Tryz.ntmps149
 go_wp2_with fail
 generalize w.alloc (.cells #[.int .i64 0, .int .i64 0, .string ⟨#[]⟩, .int .i64 0, .bool false, .int .i64 0, .slice none 0 0] 46) = W0 at *
 refine hcall.mono ?_
 rintro e W1 ⟨hk1, cs, x, j, bd, rfl, hX, hO, h1⟩
 obtain ⟨xk, xn, xs, xl, xo, xp, xa⟩ := x
 have hX0 := hX
 unfold ExL at hX
 obtain ⟨a, cap, rfl, hac, hXs⟩ := hX
 have hzl := hz0.lt
 have hs1 := hk1.size
 have hs0 := hk0.size
 have hB : Dt w (W1.alloc (.cells #[.int .i64 xk, .int .i64 xn, .string xs, .int .i64 xl, .bool xo, .int .i64 xp, .slice a xa.length cap] 46)) b w.heap.size W1.heap.size S (.mk xk xn xs xl xo xp xa) j bd := by
  refine ⟨⟨_, _, _, _, _, _, _, World.alloc_heap_new _ _, ?_⟩, (hz0.of (hk1.block _ hzl (by omega) (by omega))).alloc _, h1.alloc _, (hk0.trans hk1).alloc _⟩
  refine ExL.weak (fun c hc => ?_) (ExL.keep (fun c o v hc hv => ?_) hX0.bound)
  ·obtain ⟨hc1, hc2⟩ : W0.heap.size ≤ c ∧ c < W1.heap.size := hc
   exact ⟨by omega, by omega, by omega⟩
  ·have h2 := (World.grownBy_alloc W1 (.cells #[.int .i64 xk, .int .i64 xn, .string xs, .int .i64 xl, .bool xo, .int .i64 xp, .slice a xa.length cap] 46) none).block c (World.block_lt_of_cell? W1 _ hv) (by simp)
   rw [← hv]
   simp [World.cell?, h2]
 have HR := Lib.hid (HS.out _ _ _ hO)
 have HB := Lib.hid hB
 clear hB hX0 hXs h1 hk1 hk0 hz0 h0 hcall hO HS
 go_wp2_with fail
 generalize hW2 : W1.alloc (.cells #[.int .i64 xk, .int .i64 xn, .string xs, .int .i64 xl, .bool xo, .int .i64 xp, .slice a xa.length cap] 46) = W2 at *
 clear hW2
 have hyz : W1.heap.size ≠ w.heap.size := by omega
 have hyw : w.heap.size ≤ W1.heap.size := by omega
 generalize hy : W1.heap.size = y at *
 clear hy hzl hs1 hs0
 go_loopg [] f (fun gx wr => ∃ (g : Nat) (l : Ex) (j : Nat) (bd : Bool), gx = g ∧ g ≤ f ∧ Hid (Rest S.T bad k f n g l j bd) ∧ Hid (Dt w wr b w.heap.size y S l j bd))
 case atStart => exact ⟨f, _, _, _, rfl, Nat.le_refl _, HR, HB⟩
 case round =>
  clear HR HB
  obtain ⟨g, l, j, bd, hgk, hgf, HR, HB⟩ := hrel
  obtain ⟨⟨v0, v1, v2, v3, v4, v5, v6, hxy, hL⟩, hzz, hrd, hkp⟩ := HB.out
  obtain ⟨lk, ln, ls, ll, lo, lp, la⟩ := l
  obtain ⟨a2, cap2, hcs⟩ : ∃ a2 cap2, [v0, v1, v2, v3, v4, v5, v6] = [.int .i64 lk, .int .i64 ln, .string ls, .int .i64 ll, .bool lo, .int .i64 lp, .slice a2 la.length cap2] := by
   have h := hL
   unfold ExL at h
   obtain ⟨a2, cap2, h, -⟩ := h
   exact ⟨a2, cap2, h⟩
  cases hcs
  have hk2 : ∀ w2, Below wr.heap.size wr w2 → Xc w2 y (.int .i64 lk) (.int .i64 ln) (.string ls) (.int .i64 ll) (.bool lo) (.int .i64 lp) (.slice a2 la.length cap2) ∧ Xc w2 w.heap.size (.int .i64 0) (.int .i64 0) (.string ⟨#[]⟩) (.int .i64 0) (.bool false) (.int .i64 0) (.slice none 0 0) ∧ Dr w2 b S j bd ∧ Kp w w2 b b ∧ ExL (fun c => w.heap.size ≤ c ∧ c ≠ y ∧ c ≠ w.heap.size) w2 [.int .i64 lk, .int .i64 ln, .string ls, .int .i64 ll, .bool lo, .int .i64 lp, .slice a2 la.length cap2] (.mk lk ln ls ll lo lp la) := fun w2 hb => by
   refine ⟨hxy.of (hb.block _ hxy.lt), hzz.of (hb.block _ hzz.lt), hrd.below hb, hkp.trans (kp_same hb), ExL.keep (fun c o v hc hv => ?_) hL⟩
   have h2 := hb.block c (World.block_lt_of_cell? wr _ hv)
   rw [← hv]
   simp [World.cell?, h2]
  have HK := Lib.hid hk2
  have hnx := rnext_any hrd hn
  obtain ⟨o, ho⟩ : ∃ o, nextOp bd S.T j n = o := ⟨_, rfl⟩
  rw [ho] at hnx
  have HO := Lib.hid ho
  clear hxy hL hzz hrd hkp hk2 ho
  go_wp2_with fail
  refine hnx.mono ?_
  rintro e w2 ⟨rfl, hb2⟩
  have HQ := Lib.hid (HK.out w2 hb2)
  by_cases h0 : o = 0
  ·subst h0
   obtain ⟨hxy, hzz, -, -, -⟩ := HQ.out
   have y0 := hxy.c0
   have y1 := hxy.c1
   have y2 := hxy.c2
   have y3 := hxy.c3
   have y4 := hxy.c4
   have y5 := hxy.c5
   have y6 := hxy.c6
   have t0 := hzz.c0
   have t1 := hzz.c1
   have t2 := hzz.c2
   have t3 := hzz.c3
   have t4 := hzz.c4
   have t5 := hzz.c5
   have t6 := hzz.c6
   have f0 := hzz.frozen 0
   have f1 := hzz.frozen 1
   have f2 := hzz.frozen 2
   have f3 := hzz.frozen 3
   have f4 := hzz.frozen 4
   have f5 := hzz.frozen 5
   have f6 := hzz.frozen 6
   clear hxy hzz hnx hb2 hEg
   go_wp2_with fail
   obtain ⟨hxy, hzz, hrd, hkp, hL⟩ := HQ.out
   have hKV := kp_set7 hkp (z := w.heap.size) (Nat.le_refl _)
   refine end_ex (hzz.set _ _ _ _ _ _ _) rfl rfl rfl ⟨hKV _ _ _ _ _ _ _, _, _, j, bd, rfl, ex_put2 hL _ _ _ _ _ _ _, HR.out.stop hn HO.out, ?_⟩
   exact HH.out.fin hrd (hKV _ _ _ _ _ _ _) (heap_set7 (by omega) _ _ _ _ _ _ _)
  ·have ho1 : decide ((0 : Int) < (o : Int)) = true := by simp; omega
   have ho2 : (0 : Int) < (o : Int) := by omega
   obtain ⟨hbd, hop, hrk, g', hg', hne2, hgo⟩ := HR.out.go HO.out h0
   subst hbd
   subst hg'
   subst hgk
   have HG := Lib.hid hgo
   have HH2 := Lib.hid (And.intro hop (And.intro hrk hne2))
   clear hgo hop hrk hne2 hnx
   go_wp2_with fail
   obtain ⟨hxy2, hzz2, hrd2, hkp2, hL2⟩ := HQ.out
   have hnx2 := rnext_any hrd2 hn
   rw [HO.out] at hnx2
   clear hxy2 hzz2 hrd2 hkp2 hL2
   refine hnx2.mono ?_
   rintro e w3 ⟨rfl, hb3⟩
   have HQ3 := Lib.hid (HK.out w3 (hb2.trans (hb3.mono hb2.size)))
   clear hnx2 hb3 hb2
   obtain ⟨hxy, hzz, hrd, hkp, hL⟩ := HQ3.out
   have hjl : j < S.T.length := opAt_lt S.T (by rw [HH2.out.1]; exact h0)
   have hmx := hrd.mx
   have c1 := hrd.c1
   have f1 := hrd.hd.frozen 1
   have hyb : y ≠ b := by omega
   have hrd3 := hrd.step hjl
   have hxy3 : Xc (w3.setCell ⟨b, 1, none⟩ (.int .i64 ((j : Int) + 1))) y (.int .i64 lk) (.int .i64 ln) (.string ls) (.int .i64 ll) (.bool lo) (.int .i64 lp) (.slice a2 la.length cap2) := hxy.of (Below.heap_setCell w3 ⟨b, 1, none⟩ _ y hyb)
   have hk3 := hkp.setA 1 (.int .i64 ((j : Int) + 1))
   clear hxy hzz hrd hkp hL
   go_wp2_with fail
   have hS0 : Xc (w3.setCell ⟨b, 1, none⟩ (.int .i64 ((j : Int) + 1))).drew y (.int .i64 lk) (.int .i64 ln) (.string ls) (.int .i64 ll) (.bool lo) (.int .i64 lp) (.slice a2 la.length cap2) := hxy3
   refine wp_region_x [8] (fun W => Xc W y (.int .i64 lk) (.int .i64 ln) (.string ls) (.int .i64 ll) (.bool lo) (.int .i64 lp) (.slice a2 la.length cap2)) rfl ?_
   refine wpX_take 0 (v := ?v0) rfl (by kernel_rfl) (by kernel_rfl) (by kernel_rfl) (by kernel_rfl) (fun _ _ _ h => h) hS0 (Or.inl ⟨by kernel_rfl, ?h0⟩) ?_
   case h0 => (intro W1 hS1; have s0 := hS1.c0; have s1 := hS1.c1; have s2 := hS1.c2; have s3 := hS1.c3; have s4 := hS1.c4; have s5 := hS1.c5; have s6 := hS1.c6; go_simp; with_reducible rfl)
   refine wpX_take 1 (v := ?v1) rfl (by kernel_rfl) (by kernel_rfl) (by kernel_rfl) (by kernel_rfl) (fun _ _ _ h => h) hS0 (Or.inl ⟨by kernel_rfl, ?h1⟩) ?_
   case h1 => (intro W1 hS1; have s0 := hS1.c0; have s1 := hS1.c1; have s2 := hS1.c2; have s3 := hS1.c3; have s4 := hS1.c4; have s5 := hS1.c5; have s6 := hS1.c6; go_simp; with_reducible rfl)
   refine wpX_take 2 (v := ?v2) rfl (by kernel_rfl) (by kernel_rfl) (by kernel_rfl) (by kernel_rfl) (fun _ _ _ h => h) hS0 (Or.inl ⟨by kernel_rfl, ?h2⟩) ?_
   case h2 => (intro W1 hS1; have s0 := hS1.c0; have s1 := hS1.c1; have s2 := hS1.c2; have s3 := hS1.c3; have s4 := hS1.c4; have s5 := hS1.c5; have s6 := hS1.c6; go_simp; with_reducible rfl)
   refine wpX_take 3 (v := ?v3) rfl (by kernel_rfl) (by kernel_rfl) (by kernel_rfl) (by kernel_rfl) (fun _ _ _ h => h) hS0 (Or.inl ⟨by kernel_rfl, ?h3⟩) ?_
   case h3 => (intro W1 hS1; have s0 := hS1.c0; have s1 := hS1.c1; have s2 := hS1.c2; have s3 := hS1.c3; have s4 := hS1.c4; have s5 := hS1.c5; have s6 := hS1.c6; go_simp; with_reducible rfl)
   refine wpX_take 4 (v := ?v4) rfl (by kernel_rfl) (by kernel_rfl) (by kernel_rfl) (by kernel_rfl) (fun _ _ _ h => h) hS0 (Or.inl ⟨by kernel_rfl, ?h4⟩) ?_
   case h4 => (intro W1 hS1; have s0 := hS1.c0; have s1 := hS1.c1; have s2 := hS1.c2; have s3 := hS1.c3; have s4 := hS1.c4; have s5 := hS1.c5; have s6 := hS1.c6; go_simp; with_reducible rfl)
   refine wpX_one 5 (by kernel_rfl) rfl (fun K hK => ?_)
   go_simp
   have hrd4 : Dr (w3.setCell ⟨b, 1, none⟩ (.int .i64 ((j : Int) + 1))).drew b S (j + 1) false := hrd3.drewN 1
   have hk4 := hk3.drew
   have hce := hEg g' (by omega) (w3.setCell ⟨b, 1, none⟩ (.int .i64 ((j : Int) + 1))).drew (j + 1) hrd4 (fun _ => HH2.out.2.2)
   rw [show (((n + 1 : Nat)) : Int) = (n : Int) + 1 by omega] at hce
   try rw [show IntKind.i64.wrap ((n : Int) + 1) = (n : Int) + 1 by rw [IntKind.wrap_i64]; omega]
   refine hce.mono ?_
   rintro e w5 ⟨hk5, cs5, x5, j2, bd2, rfl, hX, hO2, h5⟩
   obtain ⟨qk, qn, qs, ql, qo, qp, qa⟩ := x5
   have hX0 := hX
   unfold ExL at hX
   obtain ⟨a3, cap3, rfl, hac3, hXs3⟩ := hX
   have hS5 := hS0.of (hk5.block y hS0.lt hyb hyb)
   refine hK _ _ (fun _ => hS5) ?_
   clear hK K
   refine wpX_one 6 (by kernel_rfl) rfl (fun K hK => ?_)
   go_simp
   have hs5 := hk5.size
   have hsd : (w3.setCell ⟨b, 1, none⟩ (.int .i64 ((j : Int) + 1))).drew.heap.size = w3.heap.size := by simp [World.drew, World.setCell]
   have hyl2 : y < w3.heap.size := HQ3.out.1.lt
   have hzl2 : w.heap.size < w3.heap.size := HQ3.out.2.1.lt
   rw [hsd] at hs5
   have hsets : ∀ c, c ≠ b → (w3.setCell ⟨b, 1, none⟩ (.int .i64 ((j : Int) + 1))).drew.heap[c]? = w3.heap[c]? := fun c hc => Below.heap_setCell w3 ⟨b, 1, none⟩ _ c hc
   have h25 : ∀ c, c < w3.heap.size → c ≠ b → w5.heap[c]? = w3.heap[c]? := fun c hc hcb => (hk5.block c (by rw [hsd]; exact hc) hcb hcb).trans (hsets c hcb)
   have hA : ExL (fun c => w.heap.size ≤ c ∧ c ≠ y ∧ c ≠ w.heap.size) w5 [.int .i64 lk, .int .i64 ln, .string ls, .int .i64 ll, .bool lo, .int .i64 lp, .slice a2 la.length cap2] (.mk lk ln ls ll lo lp la) :=
    ExL.keep (fun c o v hc hv => by
     rw [← hv]
     simp [World.cell?, h25 c (World.block_lt_of_cell? w3 _ hv) (by have := hc.1; omega)]) HQ3.out.2.2.2.2
   have hX5 : ExL (fun c => w.heap.size ≤ c ∧ c ≠ y ∧ c ≠ w.heap.size) w5 [.int .i64 qk, .int .i64 qn, .string qs, .int .i64 ql, .bool qo, .int .i64 qp, .slice a3 qa.length cap3] (.mk qk qn qs ql qo qp qa) :=
    ExL.weak (fun c hc => by
     have hc1 : (w3.setCell ⟨b, 1, none⟩ (.int .i64 ((j : Int) + 1))).drew.heap.size ≤ c := hc
     rw [hsd] at hc1
     exact ⟨by omega, by omega, by omega⟩) hX0
   have hT := two_args hA hX5 (show w.heap.size ≤ w5.heap.size ∧ w5.heap.size ≠ y ∧ w5.heap.size ≠ w.heap.size from ⟨by omega, by omega, by omega⟩) o
   have hZ5 : Xc w5 w.heap.size (.int .i64 0) (.int .i64 0) (.string ⟨#[]⟩) (.int .i64 0) (.bool false) (.int .i64 0) (.slice none 0 0) := HQ3.out.2.1.of (h25 _ hzl2 (by omega))
   have hk05 := hk4.trans hk5
   have hS6 := hS5.alloc (.cells #[.int .i64 lk, .int .i64 ln, .string ls, .int .i64 ll, .bool lo, .int .i64 lp, .slice a2 la.length cap2, .int .i64 qk, .int .i64 qn, .string qs, .int .i64 ql, .bool qo, .int .i64 qp, .slice a3 qa.length cap3] 46)
   have hZ6 := hZ5.alloc (.cells #[.int .i64 lk, .int .i64 ln, .string ls, .int .i64 ll, .bool lo, .int .i64 lp, .slice a2 la.length cap2, .int .i64 qk, .int .i64 qn, .string qs, .int .i64 ql, .bool qo, .int .i64 qp, .slice a3 qa.length cap3] 46)
   have h6 := h5.alloc (.cells #[.int .i64 lk, .int .i64 ln, .string ls, .int .i64 ll, .bool lo, .int .i64 lp, .slice a2 la.length cap2, .int .i64 qk, .int .i64 qn, .string qs, .int .i64 ql, .bool qo, .int .i64 qp, .slice a3 qa.length cap3] 46)
   have hk06 := hk05.alloc (.cells #[.int .i64 lk, .int .i64 ln, .string ls, .int .i64 ll, .bool lo, .int .i64 lp, .slice a2 la.length cap2, .int .i64 qk, .int .i64 qn, .string qs, .int .i64 ql, .bool qo, .int .i64 qp, .slice a3 qa.length cap3] 46)
   generalize hW6 : w5.alloc (.cells #[.int .i64 lk, .int .i64 ln, .string ls, .int .i64 ll, .bool lo, .int .i64 lp, .slice a2 la.length cap2, .int .i64 qk, .int .i64 qn, .string qs, .int .i64 ql, .bool qo, .int .i64 qp, .slice a3 qa.length cap3] 46) = W6 at *
   generalize w5.heap.size = q5 at *
   have hB : Dt w (set7 W6 y (.int .i64 6) (.int .i64 0) (.string ⟨#[]⟩) (.int .i64 0) (.bool false) (.int .i64 (o : Int)) (.slice (some ⟨q5, 0, none⟩) 2 2)) b w.heap.size y S (exBin o (.mk lk ln ls ll lo lp la) (.mk qk qn qs ql qo qp qa)) j2 bd2 := by
    have hKV := kp_set7 hk06 (z := y) hyw (.int .i64 6) (.int .i64 0) (.string ⟨#[]⟩) (.int .i64 0) (.bool false) (.int .i64 (o : Int)) (.slice (some ⟨q5, 0, none⟩) 2 2)
    refine ⟨⟨_, _, _, _, _, _, _, hS6.set _ _ _ _ _ _ _, ExL.keep (fun c o v hc hv => ?_) hT⟩, hZ6.of (heap_set7 (Ne.symm hyz) _ _ _ _ _ _ _), HH.out.fin h6 hKV (heap_set7 (Ne.symm hyb) _ _ _ _ _ _ _), hKV⟩
    rw [← hv]
    simp only [World.cell?]
    rw [heap_set7 hc.2.1]
   have HB3 := Lib.hid hB
   have HR2 := Lib.hid (HG.out _ j2 bd2 hO2)
   clear hB hT hA hX5 hX0 hXs3 hZ5 hZ6 h6 hk06 hk05 h25 hsets hk5 h5 hrd4 hk4 hS5 hS0 hce hO2
   refine hK _ _ (fun _ => hS6) ?_
   clear hK K
   refine wpX_one 7 (by kernel_rfl) rfl (fun K hK => ?_)
   go_simp
   refine hK _ _ (fun _ => hS6) ?_
   clear hK K
   refine wpX_one 8 (by kernel_rfl) rfl (fun K hK => ?_)
   have s0 := hS6.c0
   have s1 := hS6.c1
   have s2 := hS6.c2
   have s3 := hS6.c3
   have s4 := hS6.c4
   have s5 := hS6.c5
   have s6 := hS6.c6
   have f0 := hS6.frozen 0
   have f1' := hS6.frozen 1
   have f2 := hS6.frozen 2
   have f3 := hS6.frozen 3
   have f4 := hS6.frozen 4
   have f5 := hS6.frozen 5
   have f6 := hS6.frozen 6
   go_simp
   refine hK _ _ (fun h => absurd h (by decide)) ?_
   clear hK K s0 s1 s2 s3 s4 s5 s6 f0 f1' f2 f3 f4 f5 f6 hS6
   simp only [set7] at HB3
   generalize ((((((W6.setCell ⟨y, 0, none⟩ (.int .i64 6)).setCell ⟨y, 1, none⟩ (.int .i64 0)).setCell ⟨y, 2, none⟩ (.string ⟨#[]⟩)).setCell ⟨y, 3, none⟩ (.int .i64 0)).setCell ⟨y, 4, none⟩ (.bool false)).setCell ⟨y, 5, none⟩ (.int .i64 (o : Int))).setCell ⟨y, 6, none⟩ (.slice (some ⟨q5, 0, none⟩) 2 2) = W8 at *
   refine wpX_done (by kernel_rfl) ?_ _
   rename_i ha
   go_simp
   refine ha _ _ ?_
   clear ha
   by_cases hn3 : n = 3
   ·have hn3' : ((n : Int) == 3) = true := by simp [hn3]
    have HO9 := Lib.hid (HR2.out.2 hn3)
    obtain ⟨⟨v0, v1, v2, v3, v4, v5, v6, hxy, hL⟩, hzz, hrd, hkp⟩ := HB3.out
    have hL' := hL
    unfold exBin ExL at hL'
    obtain ⟨a9, cap9, hcs9, -⟩ := hL'
    cases hcs9
    have y0 := hxy.c0
    have y1 := hxy.c1
    have y2 := hxy.c2
    have y3 := hxy.c3
    have y4 := hxy.c4
    have y5 := hxy.c5
    have y6 := hxy.c6
    have t0 := hzz.c0
    have t1 := hzz.c1
    have t2 := hzz.c2
    have t3 := hzz.c3
    have t4 := hzz.c4
    have t5 := hzz.c5
    have t6 := hzz.c6
    have f0 := hzz.frozen 0
    have f1' := hzz.frozen 1
    have f2 := hzz.frozen 2
    have f3 := hzz.frozen 3
    have f4 := hzz.frozen 4
    have f5 := hzz.frozen 5
    have f6 := hzz.frozen 6
    have HE9 := Lib.hid (And.intro hzz (And.intro hrd (And.intro hkp hL)))
    clear hxy hzz hrd hkp hL hEg
    go_wp2_with fail
    obtain ⟨hzz, hrd, hkp, hL⟩ := HE9.out
    have hKV := kp_set7 hkp (z := w.heap.size) (Nat.le_refl _)
    refine end_ex (hzz.set _ _ _ _ _ _ _) rfl rfl rfl ⟨hKV _ _ _ _ _ _ _, _, _, j2, bd2, rfl, ex_put2 hL _ _ _ _ _ _ _, HO9.out, ?_⟩
    exact HH.out.fin hrd (hKV _ _ _ _ _ _ _) (heap_set7 (by omega) _ _ _ _ _ _ _)
   ·have hn3' : ((n : Int) == 3) = false := by
     rw [beq_eq_false_iff_ne]
     omega
    have HR9 := Lib.hid (HR2.out.1 hn3)
    go_wp2_with fail
    go_roundg g'
    case measure => omega
    case rel => exact ⟨g', _, j2, bd2, rfl, by omega, HR9, HB3⟩
end Go.Proofs.YtjmlmelcppbefaaGreatDoor
namespace Go.Proofs.YtjmlmelcppbefaaGreatDoor
open Go.RowKit Go.Maps
theorem rup_bad (b : Nat) (S : Src) : DP b S 0 true ∧ DU b S 0 true := by
 have hP : DP b S 0 true := rprim_step (fun f' e => by cases e)
 exact ⟨hP, run_step (fun f' e => by cases e) hP⟩
theorem ren_down {b : Nat} {S : Src} {f : Nat} {bad : Bool} (h6 : DEn b S 6 f bad) (hg : ∀ g, g < f → ∀ n, 1 ≤ n → n ≤ 6 → DEn b S n g false) (m : Nat) : ∀ n, 1 ≤ n → n ≤ 6 → n + m = 6 → DEn b S n f bad := by
 induction m with
 | zero =>
  intro n h1 h2 h3
  have : n = 6 := by omega
  subst this
  exact h6
 | succ m ih =>
  intro n h1 h2 h3
  exact rexpr_step h1 (by omega) (ih (n + 1) (by omega) (by omega) (by omega)) (fun g hlt => hg g hlt (n + 1) (by omega) (by omega))
structure DAll (b : Nat) (S : Src) (f : Nat) : Prop where
 p : DP b S f false
 u : DU b S f false
 e : ∀ n, 1 ≤ n → n ≤ 6 → DEn b S n f false
theorem DEn.all {b : Nat} {S : Src} {f : Nat} {bad : Bool} (h : ∀ n, 1 ≤ n → n ≤ 6 → DEn b S n f bad) : DE b S f bad := fun w n k h1 h6 hd hne => h n h1 h6 w k hd hne
theorem rexpr_good (b : Nat) (S : Src) : ∀ f, ∀ g, g ≤ f → DAll b S g := by
 intro f
 induction f with
 | zero =>
  intro g hg
  have : g = 0 := by omega
  subst this
  have hP : DP b S 0 false := rprim_step (fun f' e => by cases e)
  refine ⟨hP, run_step (fun f' e => by cases e) hP, fun n h1 h6 => ren_down (rexpr_six (fun f' hf _ => by rcases hf with hf | hf <;> cases hf)) (fun g hlt => absurd hlt (by omega)) (6 - n) n h1 h6 (by omega)⟩
 | succ f ih =>
  intro g hg
  rcases Nat.lt_or_ge g (f + 1) with hlt | hge
  ·exact ih g (by omega)
  have : g = f + 1 := by omega
  subst this
  refine ⟨rprim_step (fun f' e => ?_), run_step (fun f' e => ?_) (ih f (Nat.le_refl _)).p, fun n h1 h6 => ren_down (rexpr_six (fun f' hf _ => ?_)) (fun g hlt => (ih g (by omega)).e) (6 - n) n h1 h6 (by omega)⟩
  ·cases e
   exact DEn.all (ih f (Nat.le_refl _)).e
  ·cases e
   exact (ih f (Nat.le_refl _)).u
  ·rcases hf with hf | hf
   ·cases hf
    exact (ih f (Nat.le_refl _)).u
   ·cases hf
theorem rexpr_bad (b : Nat) (S : Src) (f : Nat) (n : Nat) (h1 : 1 ≤ n) (h6 : n ≤ 6) : DEn b S n f true := ren_down (rexpr_six (fun f' _ hf => by rw [hf rfl]; exact (rup_bad b S).2)) (fun g _ => (rexpr_good b S g g (Nat.le_refl _)).e) (6 - n) n h1 h6 (by omega)
theorem rexpr_any (b : Nat) (S : Src) (f : Nat) (bad : Bool) : DE b S f bad := by
 cases bad
 ·exact DEn.all (rexpr_good b S f f (Nat.le_refl _)).e
 ·exact DEn.all (rexpr_bad b S f)
end Go.Proofs.YtjmlmelcppbefaaGreatDoor
