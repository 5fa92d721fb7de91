/- An instruction is read. Asked: the reader lies; the table of codes. -/
import Derived.Test.YtjbinejaagpleaaDoorRls
import Derived.Test.YtjbinejaagpleaaDoorPure3
namespace Go.Proofs.YtjbinejaagpleaaDoor
open Go.RowKit

theorem Rr.ne0 {w : World} {b D : Nat} {l : List Nat} (h : Rr w b D l) (hT : TabC w) : b ≠ 0 := by
  rintro rfl
  obtain ⟨⟨g, off, cap, hb, _⟩, _⟩ := h
  have h1 := (hT.2 0 (by decide)).1
  have h2 := hb.cell
  rw [show (⟨0, 0 * 2, none⟩ : Addr) = ⟨0, 0, none⟩ from rfl, h2] at h1
  cases h1
theorem Rr.below {w w' : World} {b D : Nat} {l : List Nat} (h : Rr w b D l) (hb : Below D w w') : Rr w' b D l := by
  obtain ⟨⟨g, off, cap, hb', hc, hgb, hgD, hcell⟩, hlt, hle, hbD, hDw⟩ := h
  refine ⟨⟨g, off, cap, (hb.block b hbD).trans hb', hc, hgb, hgD, fun i hi => ?_⟩, hlt, hle, hbD, Nat.le_trans hDw hb.size⟩
  rw [← hcell i hi]
  simp [World.cell?, hb.block g hgD]
/-- What is known while something is read: new blocks, what they hold. -/
structure Is (w W : World) (b D : Nat) (q : List Nat) (l : List (Nat × Obj)) : Prop where
  rr : Rr W b D q
  kp : Kp w W b b
  hl : Held W l
  tb : TabC W
  nw : ∀ x ∈ l, w.heap.size ≤ x.1
  Dw : D ≤ w.heap.size
theorem Is.go {w W W' : World} {b D : Nat} {q q' : List Nat} {l : List (Nat × Obj)} (h : Is w W b D q l) (hr : Rr W' b D q') (hk : Kp W W' b b) : Is w W' b D q' l := by
  have h0 := h.rr.ne0 h.tb
  have hb := h.rr.bD
  have hD := h.Dw
  refine ⟨hr, h.kp.trans hk, fun x hx => ?_, h.tb.kp hk h0 h0, h.nw, h.Dw⟩
  have := h.nw x hx
  exact (hk.block x.1 (h.hl.lt hx) (by omega) (by omega)).trans (h.hl x hx)
theorem Is.below {w W W' : World} {b D : Nat} {q : List Nat} {l : List (Nat × Obj)} (h : Is w W b D q l) (hb : Below W.heap.size W W') : Is w W' b D q l :=
  ⟨h.rr.below (hb.mono h.rr.Dw), h.kp.trans (Kp.below hb), h.hl.below hb, h.tb.below hb h.tb.1, h.nw, h.Dw⟩
theorem Is.add {w W : World} {b D : Nat} {q : List Nat} {l : List (Nat × Obj)} (h : Is w W b D q l) (cs : Array Value) (t : TypeId) : Is w (W.alloc (.cells cs t)) b D q (l ++ [(W.heap.size, .cells cs t (0, 0))]) := by
  have hb : Below W.heap.size W (W.alloc (.cells cs t)) := (Below.refl _ W).alloc (Nat.le_refl _) _
  refine ⟨h.rr.below (hb.mono h.rr.Dw), h.kp.trans (Kp.below hb), h.hl.add cs t, h.tb.below hb h.tb.1, fun x hx => ?_, h.Dw⟩
  rcases List.mem_append.1 hx with hx | hx
  · exact h.nw x hx
  · obtain rfl : x = _ := by simpa using hx
    exact h.kp.size
/-- A cell of a block that is held is written. -/
theorem Is.set {w W : World} {b D : Nat} {q : List Nat} {l : List (Nat × Obj)} (h : Is w W b D q l) (i j p : Nat) {cs : Array Value} {t : TypeId} (hi : l[i]? = some (p, .cells cs t (0, 0))) (hp : p ≠ 0) (hne : ∀ k x, l[k]? = some x → x.1 = p → k = i) (u : Value) :
    Is w (W.setCell ⟨p, j, none⟩ u) b D q (l.set i (p, .cells (cs.setIfInBounds j u) t (0, 0))) := by
  have hm := List.mem_of_getElem? hi
  have hpw := h.nw _ hm
  have hbD := h.rr.bD
  have hD := h.Dw
  dsimp only at hpw
  have hB : Below D W (W.setCell ⟨p, j, none⟩ u) := (Below.refl D W).setCell (p := ⟨p, j, none⟩) (by show D ≤ p; omega) u
  refine ⟨h.rr.below hB, h.kp.setNew hpw j u, fun x hx => ?_, ?_, fun x hx => ?_, h.Dw⟩
  · obtain ⟨k, hk⟩ := List.getElem?_of_mem hx
    by_cases hki : k = i
    · subst hki
      have hlt := (List.getElem?_eq_some_iff.1 hi).1
      rw [List.getElem?_set_self hlt] at hk
      obtain rfl := Option.some.inj hk
      exact heap_set (h.hl _ hm) u
    · rw [List.getElem?_set_ne (Ne.symm hki)] at hk
      exact (Below.heap_setCell W ⟨p, j, none⟩ u x.1 (fun e => hki (hne k x hk e))).trans (h.hl x (List.mem_of_getElem? hk))
  · have he := Below.heap_setCell W ⟨p, j, none⟩ u 0 (Ne.symm hp)
    have hc : ∀ o, (W.setCell ⟨p, j, none⟩ u).cell? ⟨0, o, none⟩ = W.cell? ⟨0, o, none⟩ := fun o => by simp only [World.cell?, he]
    exact ⟨by simpa [World.setCell] using h.tb.1, fun c hcc => ⟨(hc _).trans (h.tb.2 c hcc).1, (hc _).trans (h.tb.2 c hcc).2⟩⟩
  · obtain ⟨k, hk⟩ := List.getElem?_of_mem hx
    by_cases hki : k = i
    · subst hki
      have hlt := (List.getElem?_eq_some_iff.1 hi).1
      rw [List.getElem?_set_self hlt] at hk
      obtain rfl := Option.some.inj hk
      exact hpw
    · rw [List.getElem?_set_ne (Ne.symm hki)] at hk
      exact h.nw x (List.mem_of_getElem? hk)
theorem end_ins {R : Ending → World → Prop} {act : Act} {W : World} {p : Nat} {c a b n : Int} (h : W.heap[p]? = some (.cells #[.int .i64 c, .int .i64 a, .int .i64 b, .int .i64 n] 48 (0, 0))) {fn : Func} {s : Tmp} (hres : fn.results = #[.cell s 48])
    (hs : act.tmps.getD s undef = .pointer (some ⟨p, 0, none⟩)) (hd : act.defers = []) (hR : R (.returned (.agg #[.int .i64 c, .int .i64 a, .int .i64 b, .int .i64 n])) W) : bodyPost Tryd.prog fn R .ret act W := by
  have e0 : W.cell? ⟨p, 0, none⟩ = some (.int .i64 c) := cell_blk h rfl
  have e1 : W.cell? ⟨p, 1, none⟩ = some (.int .i64 a) := cell_blk h rfl
  have e2 : W.cell? ⟨p, 2, none⟩ = some (.int .i64 b) := cell_blk h rfl
  have e3 : W.cell? ⟨p, 3, none⟩ = some (.int .i64 n) := cell_blk h rfl
  have hs' : act.tmps[s]?.getD undef = .pointer (some ⟨p, 0, none⟩) := by rw [← hs]; simp
  refine bodyPost_ret (v := .agg #[.int .i64 c, .int .i64 a, .int .i64 b, .int .i64 n]) ?_ hd hR
  simp [results, hres, go_sem, hs', e0, e1, e2, e3]
set_option maxRecDepth 100000 in
set_option maxHeartbeats 16000000 in
theorem rins_any {w : World} {b D : Nat} {l : List Nat} (h : Rr w b D l) (hT : TabC w) :
    Calls Tryd.prog 80 #[.pointer (some ⟨b, 0, none⟩)] w (RP w b D (rdIns l) (fun i => .agg #[.int .i64 i.c, .int .i64 i.a, .int .i64 i.b, .int .i64 i.n])) := by
  obtain ⟨R, hR⟩ : ∃ R, rdIns l = R := ⟨_, rfl⟩
  rw [hR]
  have hi0 : Is w w b D l [] := ⟨h, Kp.refl _ _ _, fun x hx => by (cases hx), hT, fun x hx => by (cases hx), h.Dw⟩
  have hi1 := hi0.add #[.int .i64 0, .int .i64 0, .int .i64 0, .int .i64 0] 48
  rw [List.nil_append] at hi1
  have ht := take_any hi1.rr 1
  have hw0 := hT.1
  have HR := Lib.hid hR
  clear hR h hT hi0
  go_enter Tryd.func80, Tryd.ntmps80
  go_wp2_with fail
  generalize w.alloc (.cells #[.int .i64 0, .int .i64 0, .int .i64 0, .int .i64 0] 48) = W0 at *
  refine ht.mono ?_
  rintro e w1 ⟨hk2, ⟨hq1, g, off, cap, rfl, hg, -, hc, hr1⟩ | ⟨hq1, rfl⟩⟩
  · cases l with
    | nil => exact absurd hq1 (by simp)
    | cons c r =>
      have hr2 : Rr w1 b D r := hr1
      have hc0 : w1.cell? ⟨g, off, none⟩ = some (.int .u8 (c : Int)) := hc 0 (by omega)
      have hi2 := (hi1.go hr2 hk2).add #[.int .i64 c, .int .i64 0, .int .i64 0, .int .i64 0] 48
      have hwr : IntKind.i64.wrap (c : Int) = (c : Int) := by
        rw [IntKind.wrap_i64]
        have := hi1.rr.lt c (List.mem_cons_self ..)
        omega
      have hs1 : w.heap.size < w1.heap.size := (hi1.go hr2 hk2).hl.lt (x := (w.heap.size, .cells #[.int .i64 0, .int .i64 0, .int .i64 0, .int .i64 0] 48 (0, 0))) (by simp)
      have hcf := formOf_any (c : Int) _ hi2.tb
      unfold FPost at hcf
      have hfc := f_cases (c : Int)
      obtain ⟨N, hN⟩ : ∃ x, nm (c : Int) = x := ⟨_, rfl⟩
      obtain ⟨xa, hxa⟩ : ∃ x, fA (c : Int) = x := ⟨_, rfl⟩
      obtain ⟨xb, hxb⟩ : ∃ x, fB (c : Int) = x := ⟨_, rfl⟩
      obtain ⟨xn, hxn⟩ : ∃ x, fN (c : Int) = x := ⟨_, rfl⟩
      obtain ⟨xc, hxc⟩ : ∃ x, isC (c : Int) = x := ⟨_, rfl⟩
      have hR2 := HR.out
      simp only [rdIns, hxa, hxb, hxn, hxc] at hR2
      rw [hN, hxa, hxb, hxn, hxc] at hcf
      rw [hxa, hxb, hxn] at hfc
      have HFC := Lib.hid hfc
      have HR2 := Lib.hid hR2
      have HI2 := Lib.hid hi2
      clear hc hr1 ht hq1 hi1 hr2 hk2 hi2 hfc hR2 HR hN hxa hxb hxn hxc
      go_wp2_with fail
      generalize w1.alloc (.cells #[.int .i64 c, .int .i64 0, .int .i64 0, .int .i64 0] 48) = W1 at *
      refine hcf.mono ?_
      rintro e w2 ⟨rfl, hb2⟩
      have hi3 := HI2.out.below hb2
      have hs2 : w1.heap.size < w2.heap.size := hi3.hl.lt (x := (w1.heap.size, .cells #[.int .i64 c, .int .i64 0, .int .i64 0, .int .i64 0] 48 (0, 0))) (by simp)
      have hi4 := hi3.add #[.string N, .bool xa, .bool xb, .bool xn] 86
      simp only [List.cons_append, List.nil_append] at hi4
      have hb3 : Below W1.heap.size W1 (w2.alloc (.cells #[.string N, .bool xa, .bool xb, .bool xn] 86)) := hb2.alloc hb2.size _
      have HI4 := Lib.hid hi4
      clear hb2 hb3 hi3 hi4 HI2 hcf hc0 hwr
      cases xc
      · have hR3 := HR2.out
        simp only [Bool.false_eq_true, if_false] at hR3
        have HR3 := Lib.hid hR3
        clear hR3 HR2
        go_wp2_with fail
        refine (fail_any _).mono ?_
        rintro e w3 ⟨rfl, rfl⟩
        refine ⟨rfl, ?_⟩
        rw [← HR3.out]
        exact ⟨HI4.out.kp, rfl⟩
      · have f1 := HI4.out.hl.cell 2 (k := 1) rfl rfl
        have f2 := HI4.out.hl.cell 2 (k := 2) rfl rfl
        have f3 := HI4.out.hl.cell 2 (k := 3) rfl rfl
        have i0 := HI4.out.hl.cell 1 (k := 0) rfl rfl
        have i1 := HI4.out.hl.cell 1 (k := 1) rfl rfl
        have i2 := HI4.out.hl.cell 1 (k := 2) rfl rfl
        have i3 := HI4.out.hl.cell 1 (k := 3) rfl rfl
        have z1 := HI4.out.hl.froz 1 (k := 1) rfl
        rcases HFC.out with ⟨rfl, rfl, rfl⟩ | ⟨rfl, rfl, rfl⟩ | ⟨rfl, rfl, rfl⟩ | ⟨rfl, rfl, rfl⟩
        · have hR3 := HR2.out
          simp only [if_true, Bool.false_eq_true, if_false] at hR3
          have HR3 := Lib.hid hR3
          clear hR3 HR2
          have p0 := HI4.out.hl.cell 0 (k := 0) rfl rfl
          have t0 := HI4.out.hl.froz 0 (k := 0) rfl
          have t1 := HI4.out.hl.froz 0 (k := 1) rfl
          have t2 := HI4.out.hl.froz 0 (k := 2) rfl
          have t3 := HI4.out.hl.froz 0 (k := 3) rfl
          have p1 := HI4.out.hl.cell 0 (k := 1) rfl rfl
          have p2 := HI4.out.hl.cell 0 (k := 2) rfl rfl
          have p3 := HI4.out.hl.cell 0 (k := 3) rfl rfl
          have hne : w1.heap.size ≠ w.heap.size := by omega
          go_wp2
          have e0 := HI4.out.set 0 0 w.heap.size rfl (by omega) (by
            intro k x hx e
            match k, hx with
            | 0, hx => rfl
            | 1, hx => (obtain rfl := Option.some.inj hx; simp at e; omega)
            | 2, hx => (obtain rfl := Option.some.inj hx; simp at e; omega)) (.int .i64 (c : Int))
          simp only [List.set_cons_succ, List.set_cons_zero, List.setIfInBounds_toArray] at e0
          have e1 := e0.set 0 1 w.heap.size rfl (by omega) (by
            intro k x hx e
            match k, hx with
            | 0, hx => rfl
            | 1, hx => (obtain rfl := Option.some.inj hx; simp at e; omega)
            | 2, hx => (obtain rfl := Option.some.inj hx; simp at e; omega)) (.int .i64 0)
          simp only [List.set_cons_succ, List.set_cons_zero, List.setIfInBounds_toArray] at e1
          have e2 := e1.set 0 2 w.heap.size rfl (by omega) (by
            intro k x hx e
            match k, hx with
            | 0, hx => rfl
            | 1, hx => (obtain rfl := Option.some.inj hx; simp at e; omega)
            | 2, hx => (obtain rfl := Option.some.inj hx; simp at e; omega)) (.int .i64 0)
          simp only [List.set_cons_succ, List.set_cons_zero, List.setIfInBounds_toArray] at e2
          have e3 := e2.set 0 3 w.heap.size rfl (by omega) (by
            intro k x hx e
            match k, hx with
            | 0, hx => rfl
            | 1, hx => (obtain rfl := Option.some.inj hx; simp at e; omega)
            | 2, hx => (obtain rfl := Option.some.inj hx; simp at e; omega)) (.int .i64 0)
          simp only [List.set_cons_succ, List.set_cons_zero, List.setIfInBounds_toArray] at e3
          refine end_ins (p := w.heap.size) (e3.hl (w.heap.size, _) (List.mem_cons_self ..)) rfl rfl rfl ?_
          rw [← HR3.out]
          exact ⟨e3.kp, rfl, e3.rr⟩
        · have hR3 := HR2.out
          simp only [if_true, Bool.false_eq_true, if_false] at hR3
          have hone5 := rcount_any HI4.out.rr
          cases hq5 : rdCnt r with
          | none =>
            rw [hq5] at hone5 hR3
            simp only at hR3
            have HR3 := Lib.hid hR3
            clear hR3 HR2 hq5
            go_wp2_with fail
            refine hone5.mono ?_
            rintro e w3 ⟨hk, rfl⟩
            refine ⟨rfl, ?_⟩
            rw [← HR3.out]
            exact ⟨HI4.out.kp.trans hk, rfl⟩
          | some xq5 =>
            obtain ⟨x5, q5⟩ := xq5
            rw [hq5] at hone5 hR3
            simp only at hR3
            clear hq5 HR2
            have HRx := Lib.hid hR3
            clear hR3
            go_wp2_with fail
            refine hone5.mono ?_
            rintro e w5 ⟨hk5, rfl, hr5⟩
            have hi5 := HI4.out.go hr5 hk5
            have hset5 := hi5.set 1 1 w1.heap.size rfl (by omega) (by
              intro k x hx e
              match k, hx with
              | 0, hx => (obtain rfl := Option.some.inj hx; simp at e; omega)
              | 1, hx => rfl
              | 2, hx => (obtain rfl := Option.some.inj hx; simp at e; omega)) (.int .i64 x5)
            simp only [List.set_cons_succ, List.set_cons_zero, List.setIfInBounds_toArray] at hset5
            clear f1 f2 f3 i0 i1 i2 i3 z1
            have y0 := hi5.hl.cell 1 (k := 1) rfl rfl
            have y1 := hi5.hl.froz 1 (k := 1) rfl
            have HS5 := Lib.hid hset5
            clear hk5 hr5 hone5 hi5 hset5 HI4
            have f1 := HS5.out.hl.cell 2 (k := 1) rfl rfl
            have f2 := HS5.out.hl.cell 2 (k := 2) rfl rfl
            have f3 := HS5.out.hl.cell 2 (k := 3) rfl rfl
            have i0 := HS5.out.hl.cell 1 (k := 0) rfl rfl
            have i1 := HS5.out.hl.cell 1 (k := 1) rfl rfl
            have i2 := HS5.out.hl.cell 1 (k := 2) rfl rfl
            have i3 := HS5.out.hl.cell 1 (k := 3) rfl rfl
            have z1 := HS5.out.hl.froz 1 (k := 1) rfl
            have HR3 := HRx
            have p0 := HS5.out.hl.cell 0 (k := 0) rfl rfl
            have t0 := HS5.out.hl.froz 0 (k := 0) rfl
            have t1 := HS5.out.hl.froz 0 (k := 1) rfl
            have t2 := HS5.out.hl.froz 0 (k := 2) rfl
            have t3 := HS5.out.hl.froz 0 (k := 3) rfl
            have p1 := HS5.out.hl.cell 0 (k := 1) rfl rfl
            have p2 := HS5.out.hl.cell 0 (k := 2) rfl rfl
            have p3 := HS5.out.hl.cell 0 (k := 3) rfl rfl
            have hne : w1.heap.size ≠ w.heap.size := by omega
            go_wp2
            have e0 := HS5.out.set 0 0 w.heap.size rfl (by omega) (by
              intro k x hx e
              match k, hx with
              | 0, hx => rfl
              | 1, hx => (obtain rfl := Option.some.inj hx; simp at e; omega)
              | 2, hx => (obtain rfl := Option.some.inj hx; simp at e; omega)) (.int .i64 (c : Int))
            simp only [List.set_cons_succ, List.set_cons_zero, List.setIfInBounds_toArray] at e0
            have e1 := e0.set 0 1 w.heap.size rfl (by omega) (by
              intro k x hx e
              match k, hx with
              | 0, hx => rfl
              | 1, hx => (obtain rfl := Option.some.inj hx; simp at e; omega)
              | 2, hx => (obtain rfl := Option.some.inj hx; simp at e; omega)) (.int .i64 x5)
            simp only [List.set_cons_succ, List.set_cons_zero, List.setIfInBounds_toArray] at e1
            have e2 := e1.set 0 2 w.heap.size rfl (by omega) (by
              intro k x hx e
              match k, hx with
              | 0, hx => rfl
              | 1, hx => (obtain rfl := Option.some.inj hx; simp at e; omega)
              | 2, hx => (obtain rfl := Option.some.inj hx; simp at e; omega)) (.int .i64 0)
            simp only [List.set_cons_succ, List.set_cons_zero, List.setIfInBounds_toArray] at e2
            have e3 := e2.set 0 3 w.heap.size rfl (by omega) (by
              intro k x hx e
              match k, hx with
              | 0, hx => rfl
              | 1, hx => (obtain rfl := Option.some.inj hx; simp at e; omega)
              | 2, hx => (obtain rfl := Option.some.inj hx; simp at e; omega)) (.int .i64 0)
            simp only [List.set_cons_succ, List.set_cons_zero, List.setIfInBounds_toArray] at e3
            refine end_ins (p := w.heap.size) (e3.hl (w.heap.size, _) (List.mem_cons_self ..)) rfl rfl rfl ?_
            rw [← HR3.out]
            exact ⟨e3.kp, rfl, e3.rr⟩
        · have hR3 := HR2.out
          simp only [if_true, Bool.false_eq_true, if_false] at hR3
          have hone5 := rcount_any HI4.out.rr
          cases hq5 : rdCnt r with
          | none =>
            rw [hq5] at hone5 hR3
            simp only at hR3
            have HR3 := Lib.hid hR3
            clear hR3 HR2 hq5
            go_wp2_with fail
            refine hone5.mono ?_
            rintro e w3 ⟨hk, rfl⟩
            refine ⟨rfl, ?_⟩
            rw [← HR3.out]
            exact ⟨HI4.out.kp.trans hk, rfl⟩
          | some xq5 =>
            obtain ⟨x5, q5⟩ := xq5
            rw [hq5] at hone5 hR3
            simp only at hR3
            clear hq5 HR2
            have HRx := Lib.hid hR3
            clear hR3
            go_wp2_with fail
            refine hone5.mono ?_
            rintro e w5 ⟨hk5, rfl, hr5⟩
            have hi5 := HI4.out.go hr5 hk5
            have hset5 := hi5.set 1 1 w1.heap.size rfl (by omega) (by
              intro k x hx e
              match k, hx with
              | 0, hx => (obtain rfl := Option.some.inj hx; simp at e; omega)
              | 1, hx => rfl
              | 2, hx => (obtain rfl := Option.some.inj hx; simp at e; omega)) (.int .i64 x5)
            simp only [List.set_cons_succ, List.set_cons_zero, List.setIfInBounds_toArray] at hset5
            clear f1 f2 f3 i0 i1 i2 i3 z1
            have y0 := hi5.hl.cell 1 (k := 1) rfl rfl
            have y1 := hi5.hl.froz 1 (k := 1) rfl
            have HS5 := Lib.hid hset5
            clear hk5 hr5 hone5 hi5 hset5 HI4
            have f1 := HS5.out.hl.cell 2 (k := 1) rfl rfl
            have f2 := HS5.out.hl.cell 2 (k := 2) rfl rfl
            have f3 := HS5.out.hl.cell 2 (k := 3) rfl rfl
            have i0 := HS5.out.hl.cell 1 (k := 0) rfl rfl
            have i1 := HS5.out.hl.cell 1 (k := 1) rfl rfl
            have i2 := HS5.out.hl.cell 1 (k := 2) rfl rfl
            have i3 := HS5.out.hl.cell 1 (k := 3) rfl rfl
            have z1 := HS5.out.hl.froz 1 (k := 1) rfl
            have hone6 := rcount_any HS5.out.rr
            cases hq6 : rdCnt q5 with
            | none =>
              have hR3 := HRx.out
              rw [hq6] at hone6 hR3
              simp only at hR3
              have HR3 := Lib.hid hR3
              clear hR3 hq6
              go_wp2_with fail
              refine hone6.mono ?_
              rintro e w3 ⟨hk, rfl⟩
              refine ⟨rfl, ?_⟩
              rw [← HR3.out]
              exact ⟨HS5.out.kp.trans hk, rfl⟩
            | some xq6 =>
              obtain ⟨x6, q6⟩ := xq6
              have hR3 := HRx.out
              rw [hq6] at hone6 hR3
              simp only at hR3
              clear hq6
              have HRx := Lib.hid hR3
              clear hR3
              go_wp2_with fail
              refine hone6.mono ?_
              rintro e w6 ⟨hk6, rfl, hr6⟩
              have hi6 := HS5.out.go hr6 hk6
              have hset6 := hi6.set 1 2 w1.heap.size rfl (by omega) (by
                intro k x hx e
                match k, hx with
                | 0, hx => (obtain rfl := Option.some.inj hx; simp at e; omega)
                | 1, hx => rfl
                | 2, hx => (obtain rfl := Option.some.inj hx; simp at e; omega)) (.int .i64 x6)
              simp only [List.set_cons_succ, List.set_cons_zero, List.setIfInBounds_toArray] at hset6
              clear f1 f2 f3 i0 i1 i2 i3 z1 y0 y1
              have y0 := hi6.hl.cell 1 (k := 2) rfl rfl
              have y1 := hi6.hl.froz 1 (k := 2) rfl
              have HS6 := Lib.hid hset6
              clear hk6 hr6 hone6 hi6 hset6 HS5
              have f1 := HS6.out.hl.cell 2 (k := 1) rfl rfl
              have f2 := HS6.out.hl.cell 2 (k := 2) rfl rfl
              have f3 := HS6.out.hl.cell 2 (k := 3) rfl rfl
              have i0 := HS6.out.hl.cell 1 (k := 0) rfl rfl
              have i1 := HS6.out.hl.cell 1 (k := 1) rfl rfl
              have i2 := HS6.out.hl.cell 1 (k := 2) rfl rfl
              have i3 := HS6.out.hl.cell 1 (k := 3) rfl rfl
              have z1 := HS6.out.hl.froz 1 (k := 1) rfl
              have HR3 := HRx
              have p0 := HS6.out.hl.cell 0 (k := 0) rfl rfl
              have t0 := HS6.out.hl.froz 0 (k := 0) rfl
              have t1 := HS6.out.hl.froz 0 (k := 1) rfl
              have t2 := HS6.out.hl.froz 0 (k := 2) rfl
              have t3 := HS6.out.hl.froz 0 (k := 3) rfl
              have p1 := HS6.out.hl.cell 0 (k := 1) rfl rfl
              have p2 := HS6.out.hl.cell 0 (k := 2) rfl rfl
              have p3 := HS6.out.hl.cell 0 (k := 3) rfl rfl
              have hne : w1.heap.size ≠ w.heap.size := by omega
              go_wp2
              have e0 := HS6.out.set 0 0 w.heap.size rfl (by omega) (by
                intro k x hx e
                match k, hx with
                | 0, hx => rfl
                | 1, hx => (obtain rfl := Option.some.inj hx; simp at e; omega)
                | 2, hx => (obtain rfl := Option.some.inj hx; simp at e; omega)) (.int .i64 (c : Int))
              simp only [List.set_cons_succ, List.set_cons_zero, List.setIfInBounds_toArray] at e0
              have e1 := e0.set 0 1 w.heap.size rfl (by omega) (by
                intro k x hx e
                match k, hx with
                | 0, hx => rfl
                | 1, hx => (obtain rfl := Option.some.inj hx; simp at e; omega)
                | 2, hx => (obtain rfl := Option.some.inj hx; simp at e; omega)) (.int .i64 x5)
              simp only [List.set_cons_succ, List.set_cons_zero, List.setIfInBounds_toArray] at e1
              have e2 := e1.set 0 2 w.heap.size rfl (by omega) (by
                intro k x hx e
                match k, hx with
                | 0, hx => rfl
                | 1, hx => (obtain rfl := Option.some.inj hx; simp at e; omega)
                | 2, hx => (obtain rfl := Option.some.inj hx; simp at e; omega)) (.int .i64 x6)
              simp only [List.set_cons_succ, List.set_cons_zero, List.setIfInBounds_toArray] at e2
              have e3 := e2.set 0 3 w.heap.size rfl (by omega) (by
                intro k x hx e
                match k, hx with
                | 0, hx => rfl
                | 1, hx => (obtain rfl := Option.some.inj hx; simp at e; omega)
                | 2, hx => (obtain rfl := Option.some.inj hx; simp at e; omega)) (.int .i64 0)
              simp only [List.set_cons_succ, List.set_cons_zero, List.setIfInBounds_toArray] at e3
              refine end_ins (p := w.heap.size) (e3.hl (w.heap.size, _) (List.mem_cons_self ..)) rfl rfl rfl ?_
              rw [← HR3.out]
              exact ⟨e3.kp, rfl, e3.rr⟩
        · have hR3 := HR2.out
          simp only [if_true, Bool.false_eq_true, if_false] at hR3
          have hone5 := rsigned_any HI4.out.rr
          cases hq5 : rdSgn r with
          | none =>
            rw [hq5] at hone5 hR3
            simp only at hR3
            have HR3 := Lib.hid hR3
            clear hR3 HR2 hq5
            go_wp2_with fail
            refine hone5.mono ?_
            rintro e w3 ⟨hk, rfl⟩
            refine ⟨rfl, ?_⟩
            rw [← HR3.out]
            exact ⟨HI4.out.kp.trans hk, rfl⟩
          | some xq5 =>
            obtain ⟨x5, q5⟩ := xq5
            rw [hq5] at hone5 hR3
            simp only at hR3
            clear hq5 HR2
            have HRx := Lib.hid hR3
            clear hR3
            go_wp2_with fail
            refine hone5.mono ?_
            rintro e w5 ⟨hk5, rfl, hr5⟩
            have hi5 := HI4.out.go hr5 hk5
            have hset5 := hi5.set 1 3 w1.heap.size rfl (by omega) (by
              intro k x hx e
              match k, hx with
              | 0, hx => (obtain rfl := Option.some.inj hx; simp at e; omega)
              | 1, hx => rfl
              | 2, hx => (obtain rfl := Option.some.inj hx; simp at e; omega)) (.int .i64 x5)
            simp only [List.set_cons_succ, List.set_cons_zero, List.setIfInBounds_toArray] at hset5
            clear f1 f2 f3 i0 i1 i2 i3 z1
            have y0 := hi5.hl.cell 1 (k := 3) rfl rfl
            have y1 := hi5.hl.froz 1 (k := 3) rfl
            have HS5 := Lib.hid hset5
            clear hk5 hr5 hone5 hi5 hset5 HI4
            have f1 := HS5.out.hl.cell 2 (k := 1) rfl rfl
            have f2 := HS5.out.hl.cell 2 (k := 2) rfl rfl
            have f3 := HS5.out.hl.cell 2 (k := 3) rfl rfl
            have i0 := HS5.out.hl.cell 1 (k := 0) rfl rfl
            have i1 := HS5.out.hl.cell 1 (k := 1) rfl rfl
            have i2 := HS5.out.hl.cell 1 (k := 2) rfl rfl
            have i3 := HS5.out.hl.cell 1 (k := 3) rfl rfl
            have z1 := HS5.out.hl.froz 1 (k := 1) rfl
            have HR3 := HRx
            have p0 := HS5.out.hl.cell 0 (k := 0) rfl rfl
            have t0 := HS5.out.hl.froz 0 (k := 0) rfl
            have t1 := HS5.out.hl.froz 0 (k := 1) rfl
            have t2 := HS5.out.hl.froz 0 (k := 2) rfl
            have t3 := HS5.out.hl.froz 0 (k := 3) rfl
            have p1 := HS5.out.hl.cell 0 (k := 1) rfl rfl
            have p2 := HS5.out.hl.cell 0 (k := 2) rfl rfl
            have p3 := HS5.out.hl.cell 0 (k := 3) rfl rfl
            have hne : w1.heap.size ≠ w.heap.size := by omega
            go_wp2
            have e0 := HS5.out.set 0 0 w.heap.size rfl (by omega) (by
              intro k x hx e
              match k, hx with
              | 0, hx => rfl
              | 1, hx => (obtain rfl := Option.some.inj hx; simp at e; omega)
              | 2, hx => (obtain rfl := Option.some.inj hx; simp at e; omega)) (.int .i64 (c : Int))
            simp only [List.set_cons_succ, List.set_cons_zero, List.setIfInBounds_toArray] at e0
            have e1 := e0.set 0 1 w.heap.size rfl (by omega) (by
              intro k x hx e
              match k, hx with
              | 0, hx => rfl
              | 1, hx => (obtain rfl := Option.some.inj hx; simp at e; omega)
              | 2, hx => (obtain rfl := Option.some.inj hx; simp at e; omega)) (.int .i64 0)
            simp only [List.set_cons_succ, List.set_cons_zero, List.setIfInBounds_toArray] at e1
            have e2 := e1.set 0 2 w.heap.size rfl (by omega) (by
              intro k x hx e
              match k, hx with
              | 0, hx => rfl
              | 1, hx => (obtain rfl := Option.some.inj hx; simp at e; omega)
              | 2, hx => (obtain rfl := Option.some.inj hx; simp at e; omega)) (.int .i64 0)
            simp only [List.set_cons_succ, List.set_cons_zero, List.setIfInBounds_toArray] at e2
            have e3 := e2.set 0 3 w.heap.size rfl (by omega) (by
              intro k x hx e
              match k, hx with
              | 0, hx => rfl
              | 1, hx => (obtain rfl := Option.some.inj hx; simp at e; omega)
              | 2, hx => (obtain rfl := Option.some.inj hx; simp at e; omega)) (.int .i64 x5)
            simp only [List.set_cons_succ, List.set_cons_zero, List.setIfInBounds_toArray] at e3
            refine end_ins (p := w.heap.size) (e3.hl (w.heap.size, _) (List.mem_cons_self ..)) rfl rfl rfl ?_
            rw [← HR3.out]
            exact ⟨e3.kp, rfl, e3.rr⟩
  · have hl : l = [] := List.eq_nil_of_length_eq_zero (by omega)
    subst hl
    refine ⟨rfl, hi1.kp.trans hk2, ?_⟩
    rw [← HR.out]
    rfl
end Go.Proofs.YtjbinejaagpleaaDoor
