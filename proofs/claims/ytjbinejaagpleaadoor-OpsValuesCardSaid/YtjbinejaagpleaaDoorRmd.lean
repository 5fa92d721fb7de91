/- A module is read. Asked: the reader lies; the table of codes. -/
import Derived.Test.YtjbinejaagpleaaDoorCat
import Derived.Test.YtjbinejaagpleaaDoorOwn
namespace Go.Proofs.YtjbinejaagpleaaDoor
open Go.RowKit

theorem Is.gone {w W W' : World} {b D : Nat} {q : List Nat} {l : List (Nat × Obj)} (h : Is w W b D q l) (hk : Kp W W' b b) : Held W' l ∧ Kp w W' b b := by
  have hb := h.rr.bD
  have hD := h.Dw
  refine ⟨fun x hx => ?_, h.kp.trans hk⟩
  have := h.nw x hx
  exact (hk.block x.1 (h.hl.lt hx) (by omega) (by omega)).trans (h.hl x hx)
def zeroM : Value := .agg #[.slice none 0 0, .slice none 0 0, .slice none 0 0, .int .i64 0, .int .i64 0, .slice none 0 0]
theorem mod_gone {w W : World} {b m k : Nat} {act : Act} {R : Ending → World → Prop} {x0 x1 x2 x5 : Value} {x3 x4 : Int} {y : Bool} (hH : Held W [(m, .cells #[x0, x1, x2, .int .i64 x3, .int .i64 x4, x5] 27 (0, 0)), (k, .cells #[.bool y] 4 (0, 0))])
    (hK : Kp w W b b) (hmw : w.heap.size ≤ m) (hkw : w.heap.size ≤ k)
    (h2 : act.tmps.getD 2 undef = .pointer (some ⟨m, 0, none⟩)) (h3 : act.tmps.getD 3 undef = .pointer (some ⟨k, 0, none⟩))
    (hd : act.defers = [{ target := .fn (.func 54) #[.pointer (some ⟨m, 0, none⟩), .pointer (some ⟨k, 0, none⟩)], args := #[] }])
    (hR : ∀ W', Kp w W' b b → R (.returned (.tuple #[zeroM, .bool false])) W') : bodyPostD Tryd.prog Tryd.f29 R (.panic [noM]) act W := by
  have hm := hH (m, .cells #[x0, x1, x2, .int .i64 x3, .int .i64 x4, x5] 27 (0, 0)) (by simp)
  have hk := hH (k, .cells #[.bool y] 4 (0, 0)) (by simp)
  show Leaves Tryd.prog Tryd.f29 act.tmps R act.defers (.panicking [noM]) W
  rw [hd]
  refine leaves_cons (f := 54) (args := #[.pointer (some ⟨m, 0, none⟩), .pointer (some ⟨k, 0, none⟩)]) (by simp) (by simp [go_sem]) ?_
  refine (catch_panicking m k x0 x1 x2 x5 x3 x4 y [] W hm hk).mono ?_
  rintro e u' w' ⟨rfl, rfl, hw'⟩
  have h2' : act.tmps[2]?.getD undef = .pointer (some ⟨m, 0, none⟩) := by rw [← h2]; simp
  have h3' : act.tmps[3]?.getD undef = .pointer (some ⟨k, 0, none⟩) := by rw [← h3]; simp
  have hmk : k ≠ m := by
    rintro rfl
    have h4 := hk.symm.trans hm
    simp at h4
  have hkp : Kp w w' b b := by
    rw [hw']
    exact (((((((hK.alloc _).setNew hmw 0 _).setNew hmw 1 _).setNew hmw 2 _).setNew hmw 3 _).setNew hmw 4 _).setNew hmw 5 _).setNew hkw 0 _
  have hm0 : (W.alloc (.cells #[] 98)).heap[m]? = some (.cells #[x0, x1, x2, .int .i64 x3, .int .i64 x4, x5] 27 (0, 0)) := (Below.heap_alloc W _ m (Array.getElem?_eq_some_iff.1 hm).1).trans hm
  have hk0 : (W.alloc (.cells #[] 98)).heap[k]? = some (.cells #[.bool y] 4 (0, 0)) := (Below.heap_alloc W _ k (Array.getElem?_eq_some_iff.1 hk).1).trans hk
  have e1 := heap_set (j := 0) hm0 (.slice none 0 0)
  have e2 := heap_set (j := 1) e1 (.slice none 0 0)
  have e3 := heap_set (j := 2) e2 (.slice none 0 0)
  have e4 := heap_set (j := 3) e3 (.int .i64 0)
  have e5 := heap_set (j := 4) e4 (.int .i64 0)
  have e6 := heap_set (j := 5) e5 (.slice none 0 0)
  simp only [List.setIfInBounds_toArray, List.set_cons_succ, List.set_cons_zero] at e6
  have e7 := (Below.heap_setCell _ ⟨k, 0, none⟩ (.bool false) m (Ne.symm hmk)).trans e6
  have k1 := ((Below.heap_setCell _ ⟨m, 5, none⟩ (.slice none 0 0) k hmk).trans ((Below.heap_setCell _ ⟨m, 4, none⟩ (.int .i64 0) k hmk).trans ((Below.heap_setCell _ ⟨m, 3, none⟩ (.int .i64 0) k hmk).trans ((Below.heap_setCell _ ⟨m, 2, none⟩ (.slice none 0 0) k hmk).trans ((Below.heap_setCell _ ⟨m, 1, none⟩ (.slice none 0 0) k hmk).trans ((Below.heap_setCell _ ⟨m, 0, none⟩ (.slice none 0 0) k hmk).trans hk0))))))
  have k2 := heap_set (j := 0) k1 (.bool false)
  simp only [List.setIfInBounds_toArray, List.set_cons_zero] at k2
  rw [← hw'] at e7 k2
  have c0 : w'.cell? ⟨m, 0, none⟩ = some (.slice none 0 0) := cell_blk e7 rfl
  have c1 : w'.cell? ⟨m, 1, none⟩ = some (.slice none 0 0) := cell_blk e7 rfl
  have c2 : w'.cell? ⟨m, 2, none⟩ = some (.slice none 0 0) := cell_blk e7 rfl
  have c3 : w'.cell? ⟨m, 3, none⟩ = some (.int .i64 0) := cell_blk e7 rfl
  have c4 : w'.cell? ⟨m, 4, none⟩ = some (.int .i64 0) := cell_blk e7 rfl
  have c5 : w'.cell? ⟨m, 5, none⟩ = some (.slice none 0 0) := cell_blk e7 rfl
  have d0 : w'.cell? ⟨k, 0, none⟩ = some (.bool false) := cell_blk k2 rfl
  have hfin := hR w' hkp
  unfold zeroM at hfin
  simp [Leaves, settle, results, Tryd.f29, go_sem, h2', h3', c0, c1, c2, c3, c4, c5, d0]
  exact hfin
theorem mod_done {W : World} {m k : Nat} {act : Act} {R : Ending → World → Prop} {x0 x1 x2 x3 x4 x5 : Value} {y : Bool} (hH : Held W [(m, .cells #[x0, x1, x2, x3, x4, x5] 27 (0, 0)), (k, .cells #[.bool y] 4 (0, 0))])
    (h2 : act.tmps.getD 2 undef = .pointer (some ⟨m, 0, none⟩)) (h3 : act.tmps.getD 3 undef = .pointer (some ⟨k, 0, none⟩))
    (hd : act.defers = [{ target := .fn (.func 54) #[.pointer (some ⟨m, 0, none⟩), .pointer (some ⟨k, 0, none⟩)], args := #[] }])
    (hR : R (.returned (.tuple #[.agg #[x0, x1, x2, x3, x4, x5], .bool y])) (W.alloc (.cells #[] 98))) : bodyPostD Tryd.prog Tryd.f29 R .ret act W := by
  have hm := hH (m, .cells #[x0, x1, x2, x3, x4, x5] 27 (0, 0)) (by simp)
  have hk := hH (k, .cells #[.bool y] 4 (0, 0)) (by simp)
  show Leaves Tryd.prog Tryd.f29 act.tmps R act.defers .returning W
  rw [hd]
  refine leaves_cons (f := 54) (args := #[.pointer (some ⟨m, 0, none⟩), .pointer (some ⟨k, 0, none⟩)]) (by simp) (by simp [go_sem]) ?_
  refine (catch_idle ⟨m, 0, none⟩ ⟨k, 0, none⟩ W).mono ?_
  rintro e u' w' ⟨rfl, rfl, hw'⟩
  have h2' : act.tmps[2]?.getD undef = .pointer (some ⟨m, 0, none⟩) := by rw [← h2]; simp
  have h3' : act.tmps[3]?.getD undef = .pointer (some ⟨k, 0, none⟩) := by rw [← h3]; simp
  have e7 : w'.heap[m]? = some (.cells #[x0, x1, x2, x3, x4, x5] 27 (0, 0)) := by rw [hw']; exact (Below.heap_alloc W _ m (Array.getElem?_eq_some_iff.1 hm).1).trans hm
  have k2 : w'.heap[k]? = some (.cells #[.bool y] 4 (0, 0)) := by rw [hw']; exact (Below.heap_alloc W _ k (Array.getElem?_eq_some_iff.1 hk).1).trans hk
  have c0 : w'.cell? ⟨m, 0, none⟩ = some x0 := cell_blk e7 rfl
  have c1 : w'.cell? ⟨m, 1, none⟩ = some x1 := cell_blk e7 rfl
  have c2 : w'.cell? ⟨m, 2, none⟩ = some x2 := cell_blk e7 rfl
  have c3 : w'.cell? ⟨m, 3, none⟩ = some x3 := cell_blk e7 rfl
  have c4 : w'.cell? ⟨m, 4, none⟩ = some x4 := cell_blk e7 rfl
  have c5 : w'.cell? ⟨m, 5, none⟩ = some x5 := cell_blk e7 rfl
  have d0 : w'.cell? ⟨k, 0, none⟩ = some (.bool y) := cell_blk k2 rfl
  rw [← hw'] at hR
  simp [Leaves, settle, results, Tryd.f29, go_sem, h2', h3', c0, c1, c2, c3, c4, c5, d0]
  exact hR
/-- What reading a module leaves. -/
def MPost (w : World) (b : Nat) (R : Option ModP) (e : Ending) (w' : World) : Prop := Kp w w' b b ∧ match R with
  | none => e = .returned (.tuple #[zeroM, .bool false])
  | some mp => ∃ m : ModM, e = .returned (.tuple #[.agg m.cells, .bool true]) ∧ m.p = mp ∧ OwnM w' w.heap.size m
theorem magic_eq (S : ByteArray) : (S.toList == [87, 65, 82, 80]) = decide (natsB S = [87, 65, 82, 80]) := by
  have h1 : S.toList = S.data.toList := ByteArray.toList_eq S
  have h2 : natsB S = S.data.toList.map UInt8.toNat := rfl
  rw [h1, h2, show ([87, 65, 82, 80] : List Nat) = ([87, 65, 82, 80] : List UInt8).map UInt8.toNat from rfl]
  have hinj : ∀ (a b : List UInt8), a.map UInt8.toNat = b.map UInt8.toNat → a = b := by
    intro a
    induction a with
    | nil => intro b h; cases b with
      | nil => rfl
      | cons y b => simp at h
    | cons x a ih => intro b h; cases b with
      | nil => simp at h
      | cons y b =>
        simp only [List.map_cons, List.cons.injEq] at h
        rw [UInt8.toNat_inj.1 h.1, ih b h.2]
  by_cases h : S.data.toList = [87, 65, 82, 80]
  · rw [h]
    rfl
  · have h3 : ¬ S.data.toList.map UInt8.toNat = ([87, 65, 82, 80] : List UInt8).map UInt8.toNat := fun e => h (hinj _ _ e)
    rw [decide_eq_false h3]
    exact beq_eq_false_iff_ne.2 h
theorem rdList_len {α : Type} {one : Rdr α} {most : Nat} {l q : List Nat} {xs : List α} (h : rdList most one l = some (xs, q)) : xs.length ≤ most := by
  have ht : ∀ (n : Nat) (l : List Nat) (xs : List α) (q : List Nat), rdTimes one n l = some (xs, q) → xs.length = n := by
    intro n
    induction n with
    | zero => intro l xs q h; simp only [rdTimes, Option.some.injEq, Prod.mk.injEq] at h; rw [← h.1]; rfl
    | succ n ih =>
      intro l xs q h
      simp only [rdTimes] at h
      split at h
      · cases h
      · split at h
        · cases h
        · rename_i e2
          simp only [Option.some.injEq, Prod.mk.injEq] at h
          rw [← h.1, List.length_cons, ih _ _ _ e2]
  unfold rdList at h
  split at h
  · cases h
  · split at h
    · cases h
    · rw [ht _ _ _ _ h]
      omega
set_option maxRecDepth 100000 in
set_option maxHeartbeats 16000000 in
theorem rmod_any {w : World} {b D : Nat} {l : List Nat} (h : Rr w b D l) (hT : TabC w) :
    Calls Tryd.prog 29 #[.pointer (some ⟨b, 0, none⟩)] w (MPost w b (rdMod l)) := by
  have hw := hT.1
  have hmf : ∀ (fn : Fn) (first cap : Array Value) (w : World), (Instr.makeFunc fn first cap).run Tryd.prog w = .ok (.func fn first cap) w := fun _ _ _ _ => rfl
  obtain ⟨R, hR⟩ : ∃ R, rdMod l = R := ⟨_, rfl⟩
  rw [hR]
  have hi0 : Is w w b D l [] := ⟨h, Kp.refl _ _ _, fun x hx => by (cases hx), hT, fun x hx => by (cases hx), h.Dw⟩
  have hi1 := (hi0.add #[.slice none 0 0, .slice none 0 0, .slice none 0 0, .int .i64 0, .int .i64 0, .slice none 0 0] 27).add #[.bool false] 4
  simp only [List.nil_append, List.cons_append, World.size_alloc] at hi1
  have ht := take_any hi1.rr 4
  have HI1 := Lib.hid hi1
  have HR := Lib.hid hR
  clear hi0 hi1 hR
  have hlt := h.lt
  clear h hT
  go_enter_defers Tryd.func29, Tryd.ntmps29
  go_wp2_with fail
  refine ht.mono ?_
  rintro e w3 ⟨hk3, ⟨hq3, g, off, cap, rfl, hg, -, hcc, hr3⟩ | ⟨hq3, rfl⟩⟩
  · have hcv := conv_str (W := w3) (cap := cap) hq3 hcc
    have hnb : natsB (strOf (l.take 4)) = l.take 4 := natsB_strOf (fun x hx => hlt x (List.mem_of_mem_take hx))
    obtain ⟨S, hS⟩ : ∃ S, strOf (l.take 4) = S := ⟨_, rfl⟩
    rw [hS] at hcv hnb
    have HNB := Lib.hid hnb
    have HI3 := Lib.hid (HI1.out.go hr3 hk3)
    have hmag := magic_eq S
    rw [HNB.out] at hmag
    by_cases hm4 : l.take 4 = [87, 65, 82, 80]
    · have hcmp : (S.toList == [87, 65, 82, 80]) = true := by rw [hmag]; exact decide_eq_true hm4
      have hR0 := HR.out
      unfold rdMod at hR0
      rw [if_pos hm4] at hR0
      have HR0 := Lib.hid hR0
      have hone1 := readVars_any HI3.out.rr 64 (by decide)
      clear hS hnb hk3 hr3 hcc ht HI1 hg hlt hmag hm4 hR0 HR HNB
      cases hq1 : rdList 64 rdSgn (l.drop 4) with
      | none =>
        have hR1 := HR0.out
        rw [hq1] at hone1 hR1
        simp only at hR1
        have HRn := Lib.hid hR1
        clear hR1 hq1 HR0
        go_wp2_with fail
        refine hone1.mono ?_
        rintro e w9 ⟨hk9, rfl⟩
        refine mod_gone (HI3.out.gone hk9).1 (HI3.out.gone hk9).2 (Nat.le_refl _) (Nat.le_succ _) rfl rfl rfl (fun W' hk => ⟨hk, ?_⟩)
        rw [← HRn.out]
      | some y1 =>
        obtain ⟨vs, q1⟩ := y1
        have hR1 := HR0.out
        rw [hq1] at hone1 hR1
        simp only at hR1
        have HR1 := Lib.hid hR1
        have hb1 : vs.length ≤ 64 := rdList_len hq1
        have HB1 := Lib.hid hb1
        clear hR1 hq1 HR0
        go_wp2_with fail
        refine hone1.mono ?_
        rintro e u1 ⟨hk1, vv1, rfl, ho1, hr1⟩
        obtain ⟨va1, vc1, rfl⟩ := own_form ho1
        have hi1 := HI3.out.go hr1 hk1
        have c1 := hi1.hl.cell 0 (k := 0) rfl rfl
        have f1 := hi1.hl.froz 0 (k := 0) rfl
        have hset := hi1.set 0 0 w.heap.size rfl (by omega) (by
          intro k x hx e
          match k, hx with
          | 0, hx => rfl
          | 1, hx => (obtain rfl := Option.some.inj hx; simp at e)) (.slice va1 vs.length vc1)
        simp only [List.set_cons_succ, List.set_cons_zero, List.setIfInBounds_toArray] at hset
        have HS1 := Lib.hid hset
        have hbw1 : b < w.heap.size := Nat.lt_of_lt_of_le hi1.rr.bD hi1.Dw
        have hsz1 : w.heap.size + 2 ≤ _ := HI3.out.hl.lt (x := (w.heap.size + 1, .cells #[.bool false] 4 (0, 0))) (List.mem_of_getElem? (i := 1) rfl)
        have Rvs1 := Lib.hid (own_set1 (b := w.heap.size) (j := 0) (u := .slice va1 vs.length vc1) (ownsRow_base (b' := w.heap.size + 2) ho1 hsz1) (by omega))
        clear ho1 hsz1
        clear hk1 hr1 hi1 hset hone1 HI3 hbw1
        have hone2 := readInts_any HS1.out.rr 64 (by decide)
        cases hq2 : rdList 64 rdCnt (q1) with
        | none =>
          have hR2 := HR1.out
          rw [hq2] at hone2 hR2
          simp only at hR2
          have HRn := Lib.hid hR2
          clear hR2 hq2 HR1
          go_wp2_with fail
          refine hone2.mono ?_
          rintro e w9 ⟨hk9, rfl⟩
          refine mod_gone (HS1.out.gone hk9).1 (HS1.out.gone hk9).2 (Nat.le_refl _) (Nat.le_succ _) rfl rfl rfl (fun W' hk => ⟨hk, ?_⟩)
          rw [← HRn.out]
        | some y2 =>
          obtain ⟨ars, q2⟩ := y2
          have hR2 := HR1.out
          rw [hq2] at hone2 hR2
          simp only at hR2
          have HR2 := Lib.hid hR2
          have hb2 : ars.length ≤ 64 := rdList_len hq2
          have HB2 := Lib.hid hb2
          clear hR2 hq2 HR1
          go_wp2_with fail
          refine hone2.mono ?_
          rintro e u2 ⟨hk2, vv2, rfl, ho2, hr2⟩
          obtain ⟨va2, vc2, rfl⟩ := own_form ho2
          have hi2 := HS1.out.go hr2 hk2
          have c2 := hi2.hl.cell 0 (k := 1) rfl rfl
          have f2 := hi2.hl.froz 0 (k := 1) rfl
          have hset := hi2.set 0 1 w.heap.size rfl (by omega) (by
            intro k x hx e
            match k, hx with
            | 0, hx => rfl
            | 1, hx => (obtain rfl := Option.some.inj hx; simp at e)) (.slice va2 ars.length vc2)
          simp only [List.set_cons_succ, List.set_cons_zero, List.setIfInBounds_toArray] at hset
          have HS2 := Lib.hid hset
          have hbw2 : b < w.heap.size := Nat.lt_of_lt_of_le hi2.rr.bD hi2.Dw
          have Rvs2 := Lib.hid (own_set1 (b := w.heap.size) (j := 1) (u := .slice va2 ars.length vc2) (own_kp Rvs1.out hk2 (by omega)) (by omega))
          clear Rvs1
          have hsz2 : w.heap.size + 2 ≤ _ := HS1.out.hl.lt (x := (w.heap.size + 1, .cells #[.bool false] 4 (0, 0))) (List.mem_of_getElem? (i := 1) rfl)
          have Rars2 := Lib.hid (own_set1 (b := w.heap.size) (j := 1) (u := .slice va2 ars.length vc2) (ownsRow_base (b' := w.heap.size + 2) ho2 hsz2) (by omega))
          clear ho2 hsz2
          clear hk2 hr2 hi2 hset hone2 HS1 hbw2
          clear c1 f1
          have hone3 := readInts_any HS2.out.rr 64 (by decide)
          cases hq3 : rdList 64 rdCnt (q2) with
          | none =>
            have hR3 := HR2.out
            rw [hq3] at hone3 hR3
            simp only at hR3
            have HRn := Lib.hid hR3
            clear hR3 hq3 HR2
            go_wp2_with fail
            refine hone3.mono ?_
            rintro e w9 ⟨hk9, rfl⟩
            refine mod_gone (HS2.out.gone hk9).1 (HS2.out.gone hk9).2 (Nat.le_refl _) (Nat.le_succ _) rfl rfl rfl (fun W' hk => ⟨hk, ?_⟩)
            rw [← HRn.out]
          | some y3 =>
            obtain ⟨chs, q3⟩ := y3
            have hR3 := HR2.out
            rw [hq3] at hone3 hR3
            simp only at hR3
            have HR3 := Lib.hid hR3
            have hb3 : chs.length ≤ 64 := rdList_len hq3
            have HB3 := Lib.hid hb3
            clear hR3 hq3 HR2
            go_wp2_with fail
            refine hone3.mono ?_
            rintro e u3 ⟨hk3, vv3, rfl, ho3, hr3⟩
            obtain ⟨va3, vc3, rfl⟩ := own_form ho3
            have hi3 := HS2.out.go hr3 hk3
            have c3 := hi3.hl.cell 0 (k := 2) rfl rfl
            have f3 := hi3.hl.froz 0 (k := 2) rfl
            have hset := hi3.set 0 2 w.heap.size rfl (by omega) (by
              intro k x hx e
              match k, hx with
              | 0, hx => rfl
              | 1, hx => (obtain rfl := Option.some.inj hx; simp at e)) (.slice va3 chs.length vc3)
            simp only [List.set_cons_succ, List.set_cons_zero, List.setIfInBounds_toArray] at hset
            have HS3 := Lib.hid hset
            have hbw3 : b < w.heap.size := Nat.lt_of_lt_of_le hi3.rr.bD hi3.Dw
            have Rvs3 := Lib.hid (own_set1 (b := w.heap.size) (j := 2) (u := .slice va3 chs.length vc3) (own_kp Rvs2.out hk3 (by omega)) (by omega))
            clear Rvs2
            have Rars3 := Lib.hid (own_set1 (b := w.heap.size) (j := 2) (u := .slice va3 chs.length vc3) (own_kp Rars2.out hk3 (by omega)) (by omega))
            clear Rars2
            have hsz3 : w.heap.size + 2 ≤ _ := HS2.out.hl.lt (x := (w.heap.size + 1, .cells #[.bool false] 4 (0, 0))) (List.mem_of_getElem? (i := 1) rfl)
            have Rchs3 := Lib.hid (own_set1 (b := w.heap.size) (j := 2) (u := .slice va3 chs.length vc3) (ownsRow_base (b' := w.heap.size + 2) ho3 hsz3) (by omega))
            clear ho3 hsz3
            clear hk3 hr3 hi3 hset hone3 HS2 hbw3
            clear c2 f2
            have hone4 := rcount_any HS3.out.rr
            cases hq4 : rdCnt (q3) with
            | none =>
              have hR4 := HR3.out
              rw [hq4] at hone4 hR4
              simp only at hR4
              have HRn := Lib.hid hR4
              clear hR4 hq4 HR3
              go_wp2_with fail
              refine hone4.mono ?_
              rintro e w9 ⟨hk9, rfl⟩
              refine mod_gone (HS3.out.gone hk9).1 (HS3.out.gone hk9).2 (Nat.le_refl _) (Nat.le_succ _) rfl rfl rfl (fun W' hk => ⟨hk, ?_⟩)
              rw [← HRn.out]
            | some y4 =>
              obtain ⟨mu, q4⟩ := y4
              have hR4 := HR3.out
              rw [hq4] at hone4 hR4
              simp only at hR4
              have HR4 := Lib.hid hR4
              clear hR4 hq4 HR3
              go_wp2_with fail
              refine hone4.mono ?_
              rintro e u4 ⟨hk4, rfl, hr4⟩
              have hi4 := HS3.out.go hr4 hk4
              have c4 := hi4.hl.cell 0 (k := 3) rfl rfl
              have f4 := hi4.hl.froz 0 (k := 3) rfl
              have hset := hi4.set 0 3 w.heap.size rfl (by omega) (by
                intro k x hx e
                match k, hx with
                | 0, hx => rfl
                | 1, hx => (obtain rfl := Option.some.inj hx; simp at e)) (.int .i64 mu)
              simp only [List.set_cons_succ, List.set_cons_zero, List.setIfInBounds_toArray] at hset
              have HS4 := Lib.hid hset
              have hbw4 : b < w.heap.size := Nat.lt_of_lt_of_le hi4.rr.bD hi4.Dw
              have Rvs4 := Lib.hid (own_set1 (b := w.heap.size) (j := 3) (u := .int .i64 mu) (own_kp Rvs3.out hk4 (by omega)) (by omega))
              clear Rvs3
              have Rars4 := Lib.hid (own_set1 (b := w.heap.size) (j := 3) (u := .int .i64 mu) (own_kp Rars3.out hk4 (by omega)) (by omega))
              clear Rars3
              have Rchs4 := Lib.hid (own_set1 (b := w.heap.size) (j := 3) (u := .int .i64 mu) (own_kp Rchs3.out hk4 (by omega)) (by omega))
              clear Rchs3
              clear hk4 hr4 hi4 hset hone4 HS3 hbw4
              clear c3 f3
              have hone5 := rcount_any HS4.out.rr
              cases hq5 : rdCnt (q4) with
              | none =>
                have hR5 := HR4.out
                rw [hq5] at hone5 hR5
                simp only at hR5
                have HRn := Lib.hid hR5
                clear hR5 hq5 HR4
                go_wp2_with fail
                refine hone5.mono ?_
                rintro e w9 ⟨hk9, rfl⟩
                refine mod_gone (HS4.out.gone hk9).1 (HS4.out.gone hk9).2 (Nat.le_refl _) (Nat.le_succ _) rfl rfl rfl (fun W' hk => ⟨hk, ?_⟩)
                rw [← HRn.out]
              | some y5 =>
                obtain ⟨co, q5⟩ := y5
                have hR5 := HR4.out
                rw [hq5] at hone5 hR5
                simp only at hR5
                have HR5 := Lib.hid hR5
                clear hR5 hq5 HR4
                go_wp2_with fail
                refine hone5.mono ?_
                rintro e u5 ⟨hk5, rfl, hr5⟩
                have hi5 := HS4.out.go hr5 hk5
                have c5 := hi5.hl.cell 0 (k := 4) rfl rfl
                have f5 := hi5.hl.froz 0 (k := 4) rfl
                have hset := hi5.set 0 4 w.heap.size rfl (by omega) (by
                  intro k x hx e
                  match k, hx with
                  | 0, hx => rfl
                  | 1, hx => (obtain rfl := Option.some.inj hx; simp at e)) (.int .i64 co)
                simp only [List.set_cons_succ, List.set_cons_zero, List.setIfInBounds_toArray] at hset
                have HS5 := Lib.hid hset
                have hbw5 : b < w.heap.size := Nat.lt_of_lt_of_le hi5.rr.bD hi5.Dw
                have Rvs5 := Lib.hid (own_set1 (b := w.heap.size) (j := 4) (u := .int .i64 co) (own_kp Rvs4.out hk5 (by omega)) (by omega))
                clear Rvs4
                have Rars5 := Lib.hid (own_set1 (b := w.heap.size) (j := 4) (u := .int .i64 co) (own_kp Rars4.out hk5 (by omega)) (by omega))
                clear Rars4
                have Rchs5 := Lib.hid (own_set1 (b := w.heap.size) (j := 4) (u := .int .i64 co) (own_kp Rchs4.out hk5 (by omega)) (by omega))
                clear Rchs4
                clear hk5 hr5 hi5 hset hone5 HS4 hbw5
                clear c4 f4
                have hone6 := readCodes_any HS5.out.rr HS5.out.tb 64 (by decide)
                cases hq6 : rdList 64 rdThr (q5) with
                | none =>
                  have hR6 := HR5.out
                  rw [hq6] at hone6 hR6
                  simp only at hR6
                  have HRn := Lib.hid hR6
                  clear hR6 hq6 HR5
                  go_wp2_with fail
                  refine hone6.mono ?_
                  rintro e w9 ⟨hk9, rfl⟩
                  refine mod_gone (HS5.out.gone hk9).1 (HS5.out.gone hk9).2 (Nat.le_refl _) (Nat.le_succ _) rfl rfl rfl (fun W' hk => ⟨hk, ?_⟩)
                  rw [← HRn.out]
                | some y6 =>
                  obtain ⟨cds, q6⟩ := y6
                  have hR6 := HR5.out
                  rw [hq6] at hone6 hR6
                  simp only at hR6
                  have HR6 := Lib.hid hR6
                  have hb6 : cds.length ≤ 64 := rdList_len hq6
                  have HB6 := Lib.hid hb6
                  clear hR6 hq6 HR5
                  go_wp2_with fail
                  refine hone6.mono ?_
                  rintro e u6 ⟨hk6, vv6, acc, rfl, ho6, hcs6, hcp6, hr6⟩
                  obtain ⟨va6, vc6, rfl⟩ := own_form ho6
                  have hi6 := HS5.out.go hr6 hk6
                  have c6 := hi6.hl.cell 0 (k := 5) rfl rfl
                  have f6 := hi6.hl.froz 0 (k := 5) rfl
                  have hset := hi6.set 0 5 w.heap.size rfl (by omega) (by
                    intro k x hx e
                    match k, hx with
                    | 0, hx => rfl
                    | 1, hx => (obtain rfl := Option.some.inj hx; simp at e)) (.slice va6 acc.length vc6)
                  simp only [List.set_cons_succ, List.set_cons_zero, List.setIfInBounds_toArray] at hset
                  have HS6 := Lib.hid hset
                  have hbw6 : b < w.heap.size := Nat.lt_of_lt_of_le hi6.rr.bD hi6.Dw
                  have Rvs6 := Lib.hid (own_set1 (b := w.heap.size) (j := 5) (u := .slice va6 acc.length vc6) (own_kp Rvs5.out hk6 (by omega)) (by omega))
                  clear Rvs5
                  have Rars6 := Lib.hid (own_set1 (b := w.heap.size) (j := 5) (u := .slice va6 acc.length vc6) (own_kp Rars5.out hk6 (by omega)) (by omega))
                  clear Rars5
                  have Rchs6 := Lib.hid (own_set1 (b := w.heap.size) (j := 5) (u := .slice va6 acc.length vc6) (own_kp Rchs5.out hk6 (by omega)) (by omega))
                  clear Rchs5
                  have hsz6 : w.heap.size + 2 ≤ _ := HS5.out.hl.lt (x := (w.heap.size + 1, .cells #[.bool false] 4 (0, 0))) (List.mem_of_getElem? (i := 1) rfl)
                  have Rcds6 := Lib.hid (own_set1 (b := w.heap.size) (j := 5) (u := .slice va6 acc.length vc6) (ownsRow_base (b' := w.heap.size + 2) ho6 hsz6) (by omega))
                  have HCS : Hid (∀ c ∈ acc, OwnC (u6.setCell ⟨w.heap.size, 5, none⟩ (.slice va6 acc.length vc6)) (w.heap.size + 2) c) := Lib.hid (fun c hc => by
                    have h1 := (hcs6 c hc).base (B' := w.heap.size + 2) hsz6
                    exact ⟨own_set1 h1.ii (by omega), own_set1 h1.ll (by omega), h1.nm, h1.ib, h1.lb⟩)
                  have HCP := Lib.hid hcp6
                  have hal : acc.length ≤ 64 := by have := HB6.out; rw [← hcp6, List.length_map] at this; exact this
                  clear hcs6 hcp6
                  clear ho6 hsz6
                  clear hk6 hr6 hi6 hset hone6 HS5 hbw6
                  clear c5 f5
                  have hom : OwnM (u6.setCell ⟨w.heap.size, 5, none⟩ (.slice va6 acc.length vc6)) (w.heap.size + 2) (⟨va1, vc1, vs, va2, vc2, ars, va3, vc3, chs, mu, co, va6, vc6, acc⟩ : ModM) := ⟨Rvs6.out, Rars6.out, Rchs6.out, Rcds6.out, HCS.out, HB1.out, HB2.out, HB3.out, hal⟩
                  have hck := check_any (⟨va1, vc1, vs, va2, vc2, ars, va3, vc3, chs, mu, co, va6, vc6, acc⟩ : ModM) (u6.setCell ⟨w.heap.size, 5, none⟩ (.slice va6 acc.length vc6)) HS6.out.tb hom.ok
                  have hmp : ModM.p (⟨va1, vc1, vs, va2, vc2, ars, va3, vc3, chs, mu, co, va6, vc6, acc⟩ : ModM) = ⟨vs, ars, chs, mu, co, cds⟩ := by simp only [ModM.p, HCP.out]
                  have hmm : mMay (⟨va1, vc1, vs, va2, vc2, ars, va3, vc3, chs, mu, co, va6, vc6, acc⟩ : ModM) = mMayP ⟨vs, ars, chs, mu, co, cds⟩ := by rw [mMay_p, hmp]
                  rw [hmm] at hck
                  obtain ⟨⟨g6, o6, k6, hbx6, _⟩, _⟩ := id HS6.out.rr
                  have cb6 := hbx6.cell
                  have HOM := Lib.hid hom
                  have HMP := Lib.hid hmp
                  clear hom hmp hmm hbx6 hal Rvs6 Rars6 Rchs6 Rcds6 HCS HB1 HB2 HB3 HB6 HCP
                  have m0 := HS6.out.hl.cell 0 (k := 0) rfl rfl
                  have m1 := HS6.out.hl.cell 0 (k := 1) rfl rfl
                  have m2 := HS6.out.hl.cell 0 (k := 2) rfl rfl
                  have m3 := HS6.out.hl.cell 0 (k := 3) rfl rfl
                  have m4 := HS6.out.hl.cell 0 (k := 4) rfl rfl
                  have m5 := HS6.out.hl.cell 0 (k := 5) rfl rfl
                  have hR7 := HR6.out
                  by_cases hq0 : q6 = []
                  · subst hq0
                    have hl0 : ¬ (0 : Int) < (([] : List Nat).length : Int) := by simp
                    cases hmy : mMayP ⟨vs, ars, chs, mu, co, cds⟩ with
                    | false =>
                      rw [hmy] at hck
                      rw [if_neg (fun h => by have := h.2; rw [hmy] at this; cases this)] at hR7
                      have HR7 := Lib.hid hR7
                      clear hR7 HR6 hmy
                      go_wp2_with fail
                      refine hck.mono ?_
                      rintro e w7 ⟨rfl, hb7⟩
                      have hi7 := HS6.out.below hb7
                      have HI7 := Lib.hid hi7
                      clear hi7 hb7 hck
                      go_wp2_with fail
                      refine (fail_any _).mono ?_
                      rintro e w9 ⟨rfl, rfl⟩
                      refine mod_gone HI7.out.hl HI7.out.kp (Nat.le_refl _) (Nat.le_succ _) rfl rfl rfl (fun W' hk => ⟨hk, ?_⟩)
                      rw [← HR7.out]
                    | true =>
                      rw [hmy] at hck
                      rw [if_pos ⟨rfl, hmy⟩] at hR7
                      have HR7 := Lib.hid hR7
                      clear hR7 HR6 hmy
                      go_wp2_with fail
                      refine hck.mono ?_
                      rintro e w7 ⟨rfl, hb7⟩
                      have HI7 := Lib.hid (HS6.out.below hb7)
                      have HOM7 := Lib.hid (HOM.out.below hb7)
                      clear hb7 hck HOM m0 m1 m2 m3 m4 m5 cb6
                      have m0 := HI7.out.hl.cell 0 (k := 0) rfl rfl
                      have f10 := HI7.out.hl.froz 0 (k := 0) rfl
                      have m1 := HI7.out.hl.cell 0 (k := 1) rfl rfl
                      have f11 := HI7.out.hl.froz 0 (k := 1) rfl
                      have m2 := HI7.out.hl.cell 0 (k := 2) rfl rfl
                      have f12 := HI7.out.hl.froz 0 (k := 2) rfl
                      have m3 := HI7.out.hl.cell 0 (k := 3) rfl rfl
                      have f13 := HI7.out.hl.froz 0 (k := 3) rfl
                      have m4 := HI7.out.hl.cell 0 (k := 4) rfl rfl
                      have f14 := HI7.out.hl.froz 0 (k := 4) rfl
                      have m5 := HI7.out.hl.cell 0 (k := 5) rfl rfl
                      have f15 := HI7.out.hl.froz 0 (k := 5) rfl
                      have m6 := HI7.out.hl.cell 1 (k := 0) rfl rfl
                      have f6 := HI7.out.hl.froz 1 (k := 0) rfl
                      go_wp2
                      have y0 := HI7.out.set 0 0 w.heap.size rfl (by omega) (by
                        intro k x hx e
                        match k, hx with
                        | 0, hx => rfl
                        | 1, hx => (obtain rfl := Option.some.inj hx; simp at e)) (.slice va1 vs.length vc1)
                      simp only [List.set_cons_succ, List.set_cons_zero, List.setIfInBounds_toArray] at y0
                      have o0 := HOM7.out.set (p := w.heap.size) (j := 0) (u := .slice va1 vs.length vc1) (by omega)
                      have y1 := y0.set 0 1 w.heap.size rfl (by omega) (by
                        intro k x hx e
                        match k, hx with
                        | 0, hx => rfl
                        | 1, hx => (obtain rfl := Option.some.inj hx; simp at e)) (.slice va2 ars.length vc2)
                      simp only [List.set_cons_succ, List.set_cons_zero, List.setIfInBounds_toArray] at y1
                      have o1 := o0.set (p := w.heap.size) (j := 1) (u := .slice va2 ars.length vc2) (by omega)
                      have y2 := y1.set 0 2 w.heap.size rfl (by omega) (by
                        intro k x hx e
                        match k, hx with
                        | 0, hx => rfl
                        | 1, hx => (obtain rfl := Option.some.inj hx; simp at e)) (.slice va3 chs.length vc3)
                      simp only [List.set_cons_succ, List.set_cons_zero, List.setIfInBounds_toArray] at y2
                      have o2 := o1.set (p := w.heap.size) (j := 2) (u := .slice va3 chs.length vc3) (by omega)
                      have y3 := y2.set 0 3 w.heap.size rfl (by omega) (by
                        intro k x hx e
                        match k, hx with
                        | 0, hx => rfl
                        | 1, hx => (obtain rfl := Option.some.inj hx; simp at e)) (.int .i64 mu)
                      simp only [List.set_cons_succ, List.set_cons_zero, List.setIfInBounds_toArray] at y3
                      have o3 := o2.set (p := w.heap.size) (j := 3) (u := .int .i64 mu) (by omega)
                      have y4 := y3.set 0 4 w.heap.size rfl (by omega) (by
                        intro k x hx e
                        match k, hx with
                        | 0, hx => rfl
                        | 1, hx => (obtain rfl := Option.some.inj hx; simp at e)) (.int .i64 co)
                      simp only [List.set_cons_succ, List.set_cons_zero, List.setIfInBounds_toArray] at y4
                      have o4 := o3.set (p := w.heap.size) (j := 4) (u := .int .i64 co) (by omega)
                      have y5 := y4.set 0 5 w.heap.size rfl (by omega) (by
                        intro k x hx e
                        match k, hx with
                        | 0, hx => rfl
                        | 1, hx => (obtain rfl := Option.some.inj hx; simp at e)) (.slice va6 acc.length vc6)
                      simp only [List.set_cons_succ, List.set_cons_zero, List.setIfInBounds_toArray] at y5
                      have o5 := o4.set (p := w.heap.size) (j := 5) (u := .slice va6 acc.length vc6) (by omega)
                      have y6 := y5.set 1 0 (w.heap.size + 1) rfl (by omega) (by
                        intro k x hx e
                        match k, hx with
                        | 0, hx => (obtain rfl := Option.some.inj hx; simp at e)
                        | 1, hx => rfl) (.bool true)
                      simp only [List.set_cons_succ, List.set_cons_zero, List.setIfInBounds_toArray] at y6
                      have o6 := o5.set (p := (w.heap.size + 1)) (j := 0) (u := .bool true) (by omega)
                      refine mod_done y6.hl rfl rfl rfl ⟨(y6.kp).alloc _, ?_⟩
                      rw [← HR7.out]
                      exact ⟨(⟨va1, vc1, vs, va2, vc2, ars, va3, vc3, chs, mu, co, va6, vc6, acc⟩ : ModM), rfl, HMP.out, (o6.below ((Below.refl _ _).alloc (Nat.le_refl _) _)).base (by omega)⟩
                  · have hl0 : (0 : Int) < (q6.length : Int) := by
                      have : 0 < q6.length := List.length_pos_iff.2 hq0
                      omega
                    have hl1 : 0 < q6.length := List.length_pos_iff.2 hq0
                    have hd1 : decide (0 < q6.length) = true := decide_eq_true hl1
                    rw [if_neg (fun h => hq0 h.1)] at hR7
                    have HR7 := Lib.hid hR7
                    clear hR7 HR6 hck hq0
                    go_wp2_with fail
                    refine (fail_any _).mono ?_
                    rintro e w9 ⟨rfl, rfl⟩
                    refine mod_gone HS6.out.hl HS6.out.kp (Nat.le_refl _) (Nat.le_succ _) rfl rfl rfl (fun W' hk => ⟨hk, ?_⟩)
                    rw [← HR7.out]
    · have hcmp : (S.toList == [87, 65, 82, 80]) = false := by rw [hmag]; exact decide_eq_false hm4
      have hR0 := HR.out
      unfold rdMod at hR0
      rw [if_neg hm4] at hR0
      have HR0 := Lib.hid hR0
      clear hS hnb hk3 hr3 hcc ht HI1 hg hlt hmag hm4 hR0 HR HNB
      go_wp2_with fail
      refine (fail_any _).mono ?_
      rintro e w9 ⟨rfl, rfl⟩
      refine mod_gone HI3.out.hl HI3.out.kp (Nat.le_refl _) (Nat.le_succ _) rfl rfl rfl (fun W' hk => ⟨hk, ?_⟩)
      rw [← HR0.out]
  · refine mod_gone (HI1.out.gone hk3).1 (HI1.out.gone hk3).2 (Nat.le_refl _) (Nat.le_succ _) rfl rfl rfl (fun W' hk => ⟨hk, ?_⟩)
    rw [← HR.out]
    have : ¬ l.take 4 = [87, 65, 82, 80] := fun e => by
      have := congrArg List.length e
      simp at this
      omega
    unfold rdMod
    rw [if_neg this]
end Go.Proofs.YtjbinejaagpleaaDoor
